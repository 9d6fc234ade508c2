/-
 What index_count computes. Conditions: none.
-/
import Derived.Test.YtnfgibomhkbcpaaNrJ2
import Derived.Test.YtnfgibomhkbcpaaNrLi
set_option linter.unusedSimpArgs false
set_option linter.unusedVariables false
set_option maxRecDepth 100000
set_option maxHeartbeats 4000000
namespace Go.Dc
open Go Go.Mx Go.Lx Go.Proofs
def zb7(p0:(List Int)):Nat→Int→Int→Option (Int×Bool)
 | 0,_,_=>none
 | n+1,v2,v11=>(
bif (decide (v11<(p0.length:Int)))then(
(za5 p0 v11).bind fun x3=>
((bif (decide (x3<1))then(
some true)
else(
bif (decide (8<x3))then(
some true)
else(
some (decide (4096<(w64 (v2 * x3)))))):Option Bool)).bind fun v15=>
bif v15 then(
some (0,false))
else(
zb7 p0 n (w64 (v2 * x3)) (w64 (v11+1))))
else(
some (v2,true)))
def zdr(p0:(List Int)):Option (Int×Bool):=
bif (decide (12<(p0.length:Int)))then(
some (0,false))
else(
((zb7 p0 ((p0.length:Int) - 0+2:Int).toNat 1 0:Option ((Int×Bool)))).bind fun o=>match o with
|(v2,v3)=>(
some (v2,v3)))
theorem ziv{p0:(List Int)}{r:(Int×Bool)}(h:zdr p0=some r):Lx.Fn mC 134 [(fzE false (eI .i64) p0)] (.tup [(dI r.1),(dB r.2)]):=by
 refine fnO (by conv=>lhs; cbv) ?_;unfold zdr at h;refine zaa ?_;try simp only[rnA,Nat.reduceLT]
 refine EvL.scope (zaa ?_);try simp only[rnA,Nat.reduceEqDiff,Nat.reduceLT,reduceCtorEq,zas]
 cases c1:(decide (12<(p0.length:Int)))
 ·rw[c1,cond_false]at h;try simp only[rnA,Nat.reduceEqDiff,Nat.reduceLT,reduceCtorEq,zas]
  obtain⟨o12,j12,h⟩:=bind_some h;obtain⟨T12,hT12⟩:=mkT fun a:(Int×Bool)=>⟨30,[(2,(dI a.1)),(3,(dB a.2))],[]⟩
  refine EvL.jn T12 (fun a=>a=o12) ?_ ?_
  ·refine zaa ?_;simp only[rnA];obtain⟨T15,hT15⟩:=mkT fun a:(Int×Int)=>⟨30,[(2,(dI a.1)),(3,(dB true)),(9,(fzE false (eI .i64) p0)),(10,(dI (p0.length:Int))),(11,(dI a.2))],[]⟩
   refine EvL.rounds (α:=(Int×Int)) T15 (fun n a=>zb7 p0 n a.1 a.2=some o12) ((p0.length:Int) - 0+2:Int).toNat (1,0) (by rw[hT15]; exact wm0 [] (by exact trivial)) j12 (fun _ h=>nomatch (show(none:Option (Int×Bool))=some o12 from h)) ?_;rintro n ⟨v2,v11⟩ j12;simp only[zb7]at j12;rw[congrFun hT15 (v2,v11)];refine zaa ?_;try simp only[rnA,Nat.reduceEqDiff,Nat.reduceLT]
   cases c2:(decide (v11<(p0.length:Int)))
   ·rw[c2,cond_false]at j12;try simp only[rnA]
    replace j12:=qac j12; subst j12;exact lfj hT12 rfl (wm0 [] (by exact trivial))
   rw[c2,cond_true]at j12;obtain⟨x3,g4,j12⟩:=bind_some j12;try simp only[rnA,Nat.reduceEqDiff,Nat.reduceLT,zal (n:=1) (e:=(eI .i64)) rfl g4]
   obtain⟨o16,j16,j12⟩:=bind_some j12;obtain⟨T16,hT16⟩:=mkT fun a:Bool=>⟨30,[(2,(dI v2)),(3,(dB true)),(5,(dI x3)),(9,(fzE false (eI .i64) p0)),(10,(dI (p0.length:Int))),(11,(dI v11)),(15,(dB a))],[]⟩
   refine EvL.jn T16 (fun a=>a=o16) ?_ ?_
   ·refine zaa ?_;try simp only[rnA,Nat.reduceEqDiff]
    cases c5:(decide (x3<1))
    ·rw[c5,cond_false]at j16;try simp only[rnA,Nat.reduceEqDiff,Nat.reduceLT]
     cases c6:(decide (8<x3))
     ·rw[c6,cond_false]at j16;try simp only[rnA,Nat.reduceEqDiff,Nat.reduceLT]
      replace j16:=qac j16; subst j16;exact lfj hT16 rfl (wm0 [] (by exact trivial))
     rw[c6,cond_true]at j16;try simp only[rnA]
     replace j16:=qac j16; subst j16;exact lfj hT16 rfl (wm0 [] (by exact trivial))
    rw[c5,cond_true]at j16;try simp only[rnA]
    replace j16:=qac j16; subst j16;exact lfj hT16 rfl (wm0 [] (by exact trivial))
   rintro v15 rfl;rw[congrFun hT16 v15];refine zaa ?_;try simp only[rnA,Nat.reduceEqDiff]
   cases c7:v15
   ·rw[c7,cond_false]at j12;try simp only[rnA,Nat.reduceEqDiff,Nat.reduceLT]
    exact⟨((w64 (v2 * x3)),(w64 (v11+1))),j12,by rw[hT15]; exact wm0 [] (by exact trivial)⟩
   rw[c7,cond_true]at j12;try simp only[rnA,Nat.reduceEqDiff,Nat.reduceLT,reduceCtorEq]
   replace j12:=qac j12; subst j12;exact lfj hT12 rfl (wm0 [] (by exact trivial))
  rintro⟨v2,v3⟩ rfl;dsimp only at h;rw[congrFun hT12 (v2,v3)];refine zaa ?_;try simp only[rnA,Nat.reduceEqDiff,Nat.reduceLT]
  replace h:=qac h; subst h;exact zdd.ret rfl (Snp.zfI (.cons (.lit _) (.cons (.lit _) .nil)))
 rw[c1,cond_true]at h;try simp only[rnA,Nat.reduceLT]
 replace h:=qac h; subst h;exact zdd.ret rfl (Snp.zfI (.cons (.lit _) (.cons (.lit _) .nil)))
def zdm(p0:(List Int)):Option (Int×Int):=
(zdr p0).bind fun r1=>
bif r1.2 then(
some (r1.1,0))
else(
some (0,20))
theorem zjC{p0:(List Int)}{r:(Int×Int)}(h:zdm p0=some r):Lx.Fn mC 92 [(fzE false (eI .i64) p0)] (.tup [(dI r.1),(dI r.2)]):=by
 refine fnO (by conv=>lhs; cbv) ?_;unfold zdm at h;refine zaa ?_;obtain⟨r1,g2,h⟩:=bind_some h;try simp only[rnA,Nat.reduceEqDiff,reduceIte,Nat.reduceLT,Nat.reduceAdd,Nat.reduceLeDiff,Nat.reduceMul,Nat.reduceSub,Int.reduceLE,Int.reduceLT,Int.reduceBEq,Nat.reduceBEq,reduceCtorEq]
 refine EvL.fn (ziv g2) rfl rfl (.cons (zaj _ _ (fun h=>nomatch h)) .nil) ?_;try simp only[rnA,Nat.reduceEqDiff,reduceIte,Nat.reduceLT,Nat.reduceAdd,Nat.reduceLeDiff,Nat.reduceMul,Nat.reduceSub,Int.reduceLE,Int.reduceLT,Int.reduceBEq,Nat.reduceBEq,reduceCtorEq]
 cases c3:r1.2
 ·rw[c3,cond_false]at h;try simp only[rnA,Nat.reduceEqDiff,reduceIte,Nat.reduceLT,Nat.reduceAdd,Nat.reduceLeDiff,Nat.reduceMul,Nat.reduceSub,Int.reduceLE,Int.reduceLT,Int.reduceBEq,Nat.reduceBEq,reduceCtorEq,c3]
  replace h:=qac h; subst h;exact zdd.ret rfl (Snp.zfI (.cons (.lit _) (.cons (.lit _) .nil)))
 rw[c3,cond_true]at h;try simp only[rnA,Nat.reduceEqDiff,reduceIte,Nat.reduceLT,Nat.reduceAdd,Nat.reduceLeDiff,Nat.reduceMul,Nat.reduceSub,Int.reduceLE,Int.reduceLT,Int.reduceBEq,Nat.reduceBEq,reduceCtorEq,c3]
 replace h:=qac h; subst h;exact zdd.ret rfl (Snp.zfI (.cons (.lit _) (.cons (.lit _) .nil)))
def zb3(p0:S_api_Factor):Nat→Int→Int→Option (Out Unit (S_factor_table×Int))
 | 0,_,_=>none
 | n+1,v6,v42=>(
bif (decide (v42<(p0.vars.length:Int)))then(
(za5 p0.vars v42).bind fun x7=>
((bif (decide (x7≤v6))then(
some true)
else(
some (decide (63<x7))):Option Bool)).bind fun v52=>
bif v52 then(
some (.ret ((S_factor_table.mk (S_api_Factor.mk [] [] []) []),30)))
else(
zb3 p0 n x7 (w64 (v42+1))))
else(
some (.go ())))
def zb0(p0:S_api_Factor):Nat→Int→Option (Out Unit (S_factor_table×Int))
 | 0,_=>none
 | n+1,v59=>(
bif (decide (v59<(p0.w.length:Int)))then(
(za5 p0.w v59).bind fun x12=>
((bif (decide (x12<0))then(
some true)
else(
some (decide (4611686018427387903<x12))):Option Bool)).bind fun v68=>
bif v68 then(
some (.ret ((S_factor_table.mk (S_api_Factor.mk [] [] []) []),30)))
else(
zb0 p0 n (w64 (v59+1))))
else(
some (.go ())))
def zbF(p0:S_api_Factor):Nat→Int→Int→(List Int)→Option (List Int)
 | 0,_,_,_=>none
 | n+1,v12,v13,l2=>(
bif (decide (0≤v13))then(
(za5 l2 v13).bind fun x19=>
(zeP l2 v13 v12).bind fun y21=>
(za5 p0.cards v13).bind fun x23=>
zbF p0 n (w64 (v12 * x23)) (w64 (v13 - 1)) y21)
else(
some l2))
def zbW(p0:S_api_Factor):Option (S_factor_table×Int):=
(zdm p0.cards).bind fun r1=>
((bif (r1.2 == 0)then(
bif ((p0.vars.length:Int)==(p0.cards.length:Int))then(
some (!((p0.w.length:Int)== r1.1)))
else(
some true))
else(
some true):Option Bool)).bind fun v37=>
bif v37 then(
some ((S_factor_table.mk (S_api_Factor.mk [] [] []) []),30))
else(
((zb3 p0 ((p0.vars.length:Int) - 0+2:Int).toNat (-1) 0:Option (Out Unit (S_factor_table×Int)))).bind fun o=>match o with
| .go _=>(
((zb0 p0 ((p0.w.length:Int) - 0+2:Int).toNat 0:Option (Out Unit (S_factor_table×Int)))).bind fun o=>match o with
| .go _=>(
(zd5 8 (p0.cards.length:Int) 0).bind fun y16=>
((zbF p0 ((w64 ((((Int.toNat (p0.cards.length:Int)):Nat):Int) - 1)) - 0+2:Int).toNat 1 (w64 ((((Int.toNat (p0.cards.length:Int)):Nat):Int) - 1)) y16:Option (List Int))).bind fun l2=>
some ((S_factor_table.mk p0 l2),0))
| .ret r=>some r)
| .ret r=>some r)
theorem zfA{p0:S_api_Factor}{r:(S_factor_table×Int)}(h:zbW p0=some r):Lx.FnA mC 89 [(.agg [(fzE false (eI .i64) p0.vars),(fzE false (eI .i64) p0.cards),(fzE false (eI .i64) p0.w)])] (.tup [(.agg [(fzE false (eI .i64) r.1.factor.vars),(fzE false (eI .i64) r.1.factor.cards),(fzE false (eI .i64) r.1.factor.w),(fzE false (eI .i64) r.1.steps)]),(dI r.2)]):=by
 refine zzs (by conv=>lhs; cbv) ?_;unfold zbW at h;refine zaa ?_;obtain⟨r1,g2,h⟩:=bind_some h;try simp only[rnA,Nat.reduceEqDiff,Nat.reduceLT,reduceCtorEq]
 refine EvL.fn (zjC g2) rfl rfl (.cons (zaj _ _ (fun h=>nomatch h)) .nil) ?_;try simp only[rnA,Nat.reduceEqDiff,Nat.reduceLT,reduceCtorEq]
 obtain⟨o1,j1,h⟩:=bind_some h;obtain⟨T1,hT1⟩:=mkT fun a:Bool=>⟨96,[(1,(.ptr 0 0)),(2,(.ptr 1 0)),(37,(dB a))],[.cells [(fzE false (eI .i64) p0.vars),(fzE false (eI .i64) p0.cards),(fzE false (eI .i64) p0.w)],.cells [zaJ,zaJ,zaJ,zaJ]]⟩
 refine EvL.jn T1 (fun a=>a=o1) ?_ ?_
 ·refine zaa ?_;try simp only[rnA,Nat.reduceEqDiff,Nat.reduceLT,reduceCtorEq]
  cases c3:(r1.2 == 0)
  ·rw[c3,cond_false]at j1;try simp only[rnA,Nat.reduceEqDiff,Nat.reduceLT,reduceCtorEq]
   replace j1:=qac j1; subst j1;exact lfj hT1 rfl (wm0 [.k,.k] ⟨MB.cs ⟨qc8,qc8,qc8,qc8⟩,⟨MB.cs ⟨qc8,qc8,qc8,qc8,qc8⟩,qc8⟩⟩)
  rw[c3,cond_true]at j1;try simp only[rnA,Nat.reduceEqDiff,Nat.reduceLT,reduceCtorEq,zas]
  cases c4:((p0.vars.length:Int)==(p0.cards.length:Int))
  ·rw[c4,cond_false]at j1;try simp only[rnA,Nat.reduceEqDiff,Nat.reduceLT,reduceCtorEq]
   replace j1:=qac j1; subst j1;exact lfj hT1 rfl (wm0 [.k,.k] ⟨MB.cs ⟨qc8,qc8,qc8,qc8⟩,⟨MB.cs ⟨qc8,qc8,qc8,qc8,qc8⟩,qc8⟩⟩)
  rw[c4,cond_true]at j1;try simp only[rnA,Nat.reduceEqDiff,Nat.reduceLT,reduceCtorEq,zas]
  replace j1:=qac j1; subst j1;exact lfj hT1 rfl (wm0 [.k,.k] ⟨MB.cs ⟨qc8,qc8,qc8,qc8⟩,⟨MB.cs ⟨qc8,qc8,qc8,qc8,qc8⟩,qc8⟩⟩)
 rintro v37 rfl;rw[congrFun hT1 v37];refine zaa ?_;try simp only[rnA,Nat.reduceEqDiff]
 cases c5:v37
 ·rw[c5,cond_false]at h;try simp only[rnA,Nat.reduceEqDiff,Nat.reduceLT,zas]
  obtain⟨o5,j5,h⟩:=bind_some h;obtain⟨T5,hT5⟩:=mkT fun a:Unit=>⟨96,[(1,(.ptr 0 0)),(2,(.ptr 1 0))],[.cells [(fzE false (eI .i64) p0.vars),(fzE false (eI .i64) p0.cards),(fzE false (eI .i64) p0.w)],.cells [zaJ,zaJ,zaJ,zaJ]]⟩
  refine EvL.jn T5 (fun a=>o5=.go a) ?_ ?_
  ·refine zaa ?_;simp only[rnA];obtain⟨T8,hT8⟩:=mkT fun a:(Int×Int)=>⟨96,[(1,(.ptr 0 0)),(2,(.ptr 1 0)),(6,(dI a.1)),(40,(fzE false (eI .i64) p0.vars)),(41,(dI (p0.vars.length:Int))),(42,(dI a.2))],[.cells [(fzE false (eI .i64) p0.vars),(fzE false (eI .i64) p0.cards),(fzE false (eI .i64) p0.w)],.cells [zaJ,zaJ,zaJ,zaJ]]⟩
   refine EvL.rounds (α:=(Int×Int)) T8 (fun n a=>zb3 p0 n a.1 a.2=some o5) ((p0.vars.length:Int) - 0+2:Int).toNat ((-1),0) (by rw[hT8]; exact wm0 [.k,.k] ⟨MB.cs ⟨qc8,qc8,qc8,qc8⟩,⟨MB.cs ⟨qc8,qc8,qc8,qc8,qc8⟩,qc8⟩⟩) j5 (fun _ h=>nomatch (show(none:Option (Out Unit (S_factor_table×Int)))=some o5 from h)) ?_;rintro n ⟨v6,v42⟩ j5;simp only[zb3]at j5;rw[congrFun hT8 (v6,v42)];refine zaa ?_;try simp only[rnA,Nat.reduceEqDiff,Nat.reduceLT]
   cases c6:(decide (v42<(p0.vars.length:Int)))
   ·rw[c6,cond_false]at j5;try simp only[rnA]
    replace j5:=qac j5; subst j5;exact lfj hT5 rfl (wm0 [.k,.k] ⟨MB.cs ⟨qc8,qc8,qc8,qc8⟩,⟨MB.cs ⟨qc8,qc8,qc8,qc8,qc8⟩,qc8⟩⟩)
   rw[c6,cond_true]at j5;obtain⟨x7,g8,j5⟩:=bind_some j5;try simp only[rnA,Nat.reduceEqDiff,Nat.reduceLT,zal (n:=1) (e:=(eI .i64)) rfl g8]
   obtain⟨o9,j9,j5⟩:=bind_some j5;obtain⟨T9,hT9⟩:=mkT fun a:Bool=>⟨96,[(1,(.ptr 0 0)),(2,(.ptr 1 0)),(8,(dI x7)),(40,(fzE false (eI .i64) p0.vars)),(41,(dI (p0.vars.length:Int))),(42,(dI v42)),(52,(dB a))],[.cells [(fzE false (eI .i64) p0.vars),(fzE false (eI .i64) p0.cards),(fzE false (eI .i64) p0.w)],.cells [zaJ,zaJ,zaJ,zaJ]]⟩
   refine EvL.jn T9 (fun a=>a=o9) ?_ ?_
   ·refine zaa ?_;try simp only[rnA,Nat.reduceEqDiff,Nat.reduceLT]
    cases c9:(decide (x7≤v6))
    ·rw[c9,cond_false]at j9;try simp only[rnA,Nat.reduceEqDiff,Nat.reduceLT]
     replace j9:=qac j9; subst j9;exact lfj hT9 rfl (wm0 [.k,.k] ⟨MB.cs ⟨qc8,qc8,qc8,qc8⟩,⟨MB.cs ⟨qc8,qc8,qc8,qc8,qc8⟩,qc8⟩⟩)
    rw[c9,cond_true]at j9;try simp only[rnA,Nat.reduceEqDiff,Nat.reduceLT]
    replace j9:=qac j9; subst j9;exact lfj hT9 rfl (wm0 [.k,.k] ⟨MB.cs ⟨qc8,qc8,qc8,qc8⟩,⟨MB.cs ⟨qc8,qc8,qc8,qc8,qc8⟩,qc8⟩⟩)
   rintro v52 rfl;rw[congrFun hT9 v52];refine zaa ?_;try simp only[rnA,Nat.reduceEqDiff]
   cases c10:v52
   ·rw[c10,cond_false]at j5;try simp only[rnA,Nat.reduceEqDiff,Nat.reduceLT]
    exact⟨(x7,(w64 (v42+1))),j5,by rw[hT8]; exact wm0 [.k,.k] ⟨MB.cs ⟨qc8,qc8,qc8,qc8⟩,⟨MB.cs ⟨qc8,qc8,qc8,qc8,qc8⟩,qc8⟩⟩⟩
   rw[c10,cond_true]at j5;try simp only[rnA,Nat.reduceEqDiff,Nat.reduceLT,Nat.reduceAdd,Nat.reduceLeDiff]
   replace j5:=qac j5; subst j5;dsimp only at h;replace h:=qac h; subst h;exact zhh.ret rfl (Snp.zfI (.cons (.zeD (.cons (zam (eI .i64)) (.cons (zam (eI .i64)) (.cons (zam (eI .i64)) (.cons (zam (eI .i64)) .nil))))) (.cons (.lit _) .nil)))
  rintro⟨⟩ rfl;dsimp only at h;rw[congrFun hT5 ()];refine zaa ?_;try simp only[rnA,Nat.reduceEqDiff,Nat.reduceLT,zas]
  obtain⟨o13,j13,h⟩:=bind_some h;obtain⟨T13,hT13⟩:=mkT fun a:Unit=>⟨96,[(1,(.ptr 0 0)),(2,(.ptr 1 0))],[.cells [(fzE false (eI .i64) p0.vars),(fzE false (eI .i64) p0.cards),(fzE false (eI .i64) p0.w)],.cells [zaJ,zaJ,zaJ,zaJ]]⟩
  refine EvL.jn T13 (fun a=>o13=.go a) ?_ ?_
  ·refine zaa ?_;simp only[rnA];obtain⟨T16,hT16⟩:=mkT fun a:Int=>⟨96,[(1,(.ptr 0 0)),(2,(.ptr 1 0)),(57,(fzE false (eI .i64) p0.w)),(58,(dI (p0.w.length:Int))),(59,(dI a))],[.cells [(fzE false (eI .i64) p0.vars),(fzE false (eI .i64) p0.cards),(fzE false (eI .i64) p0.w)],.cells [zaJ,zaJ,zaJ,zaJ]]⟩
   refine EvL.rounds (α:=Int) T16 (fun n a=>zb0 p0 n a=some o13) ((p0.w.length:Int) - 0+2:Int).toNat 0 (by rw[hT16]; exact wm0 [.k,.k] ⟨MB.cs ⟨qc8,qc8,qc8,qc8⟩,⟨MB.cs ⟨qc8,qc8,qc8,qc8,qc8⟩,qc8⟩⟩) j13 (fun _ h=>nomatch (show(none:Option (Out Unit (S_factor_table×Int)))=some o13 from h)) ?_;rintro n v59 j13;simp only[zb0]at j13;rw[congrFun hT16 v59];refine zaa ?_;try simp only[rnA,Nat.reduceEqDiff,Nat.reduceLT]
   cases c11:(decide (v59<(p0.w.length:Int)))
   ·rw[c11,cond_false]at j13;try simp only[rnA]
    replace j13:=qac j13; subst j13;exact lfj hT13 rfl (wm0 [.k,.k] ⟨MB.cs ⟨qc8,qc8,qc8,qc8⟩,⟨MB.cs ⟨qc8,qc8,qc8,qc8,qc8⟩,qc8⟩⟩)
   rw[c11,cond_true]at j13;obtain⟨x12,g13,j13⟩:=bind_some j13;try simp only[rnA,Nat.reduceEqDiff,Nat.reduceLT,zal (n:=1) (e:=(eI .i64)) rfl g13]
   obtain⟨o17,j17,j13⟩:=bind_some j13;obtain⟨T17,hT17⟩:=mkT fun a:Bool=>⟨96,[(1,(.ptr 0 0)),(2,(.ptr 1 0)),(57,(fzE false (eI .i64) p0.w)),(58,(dI (p0.w.length:Int))),(59,(dI v59)),(68,(dB a))],[.cells [(fzE false (eI .i64) p0.vars),(fzE false (eI .i64) p0.cards),(fzE false (eI .i64) p0.w)],.cells [zaJ,zaJ,zaJ,zaJ]]⟩
   refine EvL.jn T17 (fun a=>a=o17) ?_ ?_
   ·refine zaa ?_;try simp only[rnA,Nat.reduceEqDiff,Nat.reduceLT]
    cases c14:(decide (x12<0))
    ·rw[c14,cond_false]at j17;try simp only[rnA,Nat.reduceEqDiff,Nat.reduceLT]
     replace j17:=qac j17; subst j17;exact lfj hT17 rfl (wm0 [.k,.k] ⟨MB.cs ⟨qc8,qc8,qc8,qc8⟩,⟨MB.cs ⟨qc8,qc8,qc8,qc8,qc8⟩,qc8⟩⟩)
    rw[c14,cond_true]at j17;try simp only[rnA,Nat.reduceEqDiff,Nat.reduceLT]
    replace j17:=qac j17; subst j17;exact lfj hT17 rfl (wm0 [.k,.k] ⟨MB.cs ⟨qc8,qc8,qc8,qc8⟩,⟨MB.cs ⟨qc8,qc8,qc8,qc8,qc8⟩,qc8⟩⟩)
   rintro v68 rfl;rw[congrFun hT17 v68];refine zaa ?_;try simp only[rnA,Nat.reduceEqDiff]
   cases c15:v68
   ·rw[c15,cond_false]at j13;try simp only[rnA,Nat.reduceEqDiff,Nat.reduceLT]
    exact⟨(w64 (v59+1)),j13,by rw[hT16]; exact wm0 [.k,.k] ⟨MB.cs ⟨qc8,qc8,qc8,qc8⟩,⟨MB.cs ⟨qc8,qc8,qc8,qc8,qc8⟩,qc8⟩⟩⟩
   rw[c15,cond_true]at j13;try simp only[rnA,Nat.reduceEqDiff,Nat.reduceLT,Nat.reduceAdd,Nat.reduceLeDiff]
   replace j13:=qac j13; subst j13;dsimp only at h;replace h:=qac h; subst h;exact zhh.ret rfl (Snp.zfI (.cons (.zeD (.cons (zam (eI .i64)) (.cons (zam (eI .i64)) (.cons (zam (eI .i64)) (.cons (zam (eI .i64)) .nil))))) (.cons (.lit _) .nil)))
  rintro⟨⟩ rfl;dsimp only at h;rw[congrFun hT13 ()];refine zaa ?_;obtain⟨y16,g17,h⟩:=bind_some h;try simp only[rnA,Nat.reduceEqDiff,Nat.reduceLT,Nat.reduceAdd,zas,(zaA g17).1.1,(zaA g17).1.2,qbX,(show List.replicate (Int.toNat (p0.cards.length:Int)) [(dI 0)]=y16.map ((eI .i64).c true)from zbH g17 ((eI .i64).c true)),zbs g17]
  obtain⟨o18,j18,h⟩:=bind_some h;obtain⟨T18,hT18⟩:=mkT fun a:(List Int)=>⟨96,[(1,(.ptr 0 0)),(2,(.ptr 1 0)),(11,(.sl 2 0 1 (Int.toNat (p0.cards.length:Int)) (some (Int.toNat (p0.cards.length:Int))) (Int.toNat (p0.cards.length:Int))))],[.cells [(fzE false (eI .i64) p0.vars),(fzE false (eI .i64) p0.cards),(fzE false (eI .i64) p0.w)],.cells [zaJ,zaJ,zaJ,zaJ],.els 1 (a.map ((eI .i64).c true))]⟩
  refine EvL.jn T18 (fun a=>a=o18∧a.length=(Int.toNat (p0.cards.length:Int))) ?_ ?_
  ·refine zaa ?_;simp only[rnA];obtain⟨T19,hT19⟩:=mkT fun a:(Int×Int×(List Int))=>⟨96,[(1,(.ptr 0 0)),(2,(.ptr 1 0)),(11,(.sl 2 0 1 (Int.toNat (p0.cards.length:Int)) (some (Int.toNat (p0.cards.length:Int))) (Int.toNat (p0.cards.length:Int)))),(12,(dI a.1)),(13,(dI a.2.1))],[.cells [(fzE false (eI .i64) p0.vars),(fzE false (eI .i64) p0.cards),(fzE false (eI .i64) p0.w)],.cells [zaJ,zaJ,zaJ,zaJ],.els 1 (a.2.2.map ((eI .i64).c true))]⟩
   refine EvL.rounds (α:=(Int×Int×(List Int))) T19 (fun n a=>zbF p0 n a.1 a.2.1 a.2.2=some o18∧a.2.2.length=(Int.toNat (p0.cards.length:Int))) ((w64 ((((Int.toNat (p0.cards.length:Int)):Nat):Int) - 1)) - 0+2:Int).toNat (1,(w64 ((((Int.toNat (p0.cards.length:Int)):Nat):Int) - 1)),y16) (by rw[hT19]; exact wm0 [.k,.k,.k] ⟨MB.cs ⟨qc8,qc8,qc8,qc8⟩,⟨MB.cs ⟨qc8,qc8,qc8,qc8,qc8⟩,⟨MB.es (eI .i64) true y16,qc8⟩⟩⟩) ⟨j18,zbs g17⟩ (fun _ h=>nomatch (show(none:Option (List Int))=some o18 from h.1)) ?_;rintro n ⟨v12,v13,l2⟩ ⟨j18,el2⟩;simp only[zbF]at j18;rw[congrFun hT19 (v12,v13,l2)];refine zaa ?_;try simp only[rnA,Nat.reduceEqDiff,Nat.reduceLT]
   cases c18:(decide (0≤v13))
   ·rw[c18,cond_false]at j18;try simp only[rnA]
    replace j18:=qac j18; subst j18;exact⟨_,⟨rfl,el2⟩,by rw[hT18]; exact wm0 [.k,.k,.k] ⟨MB.cs ⟨qc8,qc8,qc8,qc8⟩,⟨MB.cs ⟨qc8,qc8,qc8,qc8,qc8⟩,⟨MB.es (eI .i64) true l2,qc8⟩⟩⟩⟩
   rw[c18,cond_true]at j18;obtain⟨x19,g20,j18⟩:=bind_some j18;obtain⟨y21,g22,j18⟩:=bind_some j18;obtain⟨x23,g24,j18⟩:=bind_some j18;try simp only[rnA,Nat.reduceEqDiff,Nat.reduceLT,Nat.reduceLeDiff,el2,zbk g20,(show v13<(((Int.toNat (p0.cards.length:Int)):Nat):Int)from el2 ▸ zbj g20),zaS g20 ((eI .i64).c true),(show(l2.map ((eI .i64).c true)).set v13.toNat [(dI v12)]=y21.map ((eI .i64).c true)from zby g22 ((eI .i64).c true)),zal (n:=1) (e:=(eI .i64)) rfl g24]
   exact⟨((w64 (v12 * x23)),(w64 (v13 - 1)),y21),⟨j18,(zbe g22).trans el2⟩,by rw[hT19]; exact wm0 [.k,.k,.k] ⟨MB.cs ⟨qc8,qc8,qc8,qc8⟩,⟨MB.cs ⟨qc8,qc8,qc8,qc8,qc8⟩,⟨MB.es (eI .i64) true y21,qc8⟩⟩⟩⟩
  rintro l2 ⟨rfl,el2⟩;rw[congrFun hT18 l2];refine zaa ?_;try simp only[rnA,Nat.reduceEqDiff,Nat.reduceLT,Nat.reduceAdd,Nat.reduceLeDiff]
  replace h:=qac h; subst h;exact zhh.ret rfl (Snp.zfI (.cons (.zeD (.cons (zaj _ _ (fun h=>nomatch h)) (.cons (zaj _ _ (fun h=>nomatch h)) (.cons (zaj _ _ (fun h=>nomatch h)) (.cons (zbz (e:=(eI .i64)) (t:=true) rfl (.inl rfl) (el2).symm (el2).symm (fun k h=>by cases h; exact qam _) (fun h=>nomatch h)) .nil))))) (.cons (.lit _) .nil)))
 rw[c5,cond_true]at h;try simp only[rnA,Nat.reduceEqDiff,Nat.reduceLT,Nat.reduceAdd,Nat.reduceLeDiff]
 replace h:=qac h; subst h;exact zhh.ret rfl (Snp.zfI (.cons (.zeD (.cons (zam (eI .i64)) (.cons (zam (eI .i64)) (.cons (zam (eI .i64)) (.cons (zam (eI .i64)) .nil))))) (.cons (.lit _) .nil)))
def ziL(cards steps:List Int):Nat→List Int→Int→Option (List Int×Int×Int)
 | 0,vals,a=>some (vals,a,-1)
 | k+1,vals,a=>(za5 vals (k:Int)).bind fun v=>(za5 cards (k:Int)).bind fun c=>bif v == w64 (c - 1)then(za5 steps (k:Int)).bind fun st=>(zeP vals (k:Int) 0).bind fun vals'=>ziL cards steps k vals' (w64 (a - w64 (v * st)))else some (vals,a,(k:Int))
def zwA(cards steps:List Int):Nat→List Int→Int→Int→Option (List (Int×Int×List Int))
 | 0,_,_,_=>none
 | n+1,vals,i,a=>(ziL cards steps cards.length vals a).bind fun r=>bif decide (r.2.2<0)then some [(i,a,vals)]else
   (za5 r.1 r.2.2).bind fun v=>(zeP r.1 r.2.2 (w64 (v+1))).bind fun vals'=>(za5 steps r.2.2).bind fun st=>(zwA cards steps n vals' (w64 (i+1)) (w64 (r.2.1+st))).map fun l=>(i,a,vals):: l
def zwZ(cards steps:List Int):Option (List (Int×Int×List Int)):=(zfa cards).bind fun _=>(zd5 8 (cards.length:Int) 0).bind fun z=>zwA cards steps ((cards.foldl (· * ·) 1).toNat) z 0 0
theorem zkU{α β:Type}{o:Option α}{f:α→β}{b:β}(h:o.map f=some b):∃ a,o=some a∧b=f a:=by
 cases o with
 | none=>cases h
 | some a=>cases h; exact⟨a,rfl,rfl⟩
theorem zu6{L:List LB}{n:Nat}(h:L.length=n)(x:LB):(L ++ [x])[n]? = some x:=by subst h; simp
theorem zvd{L:List LB}{n:Nat}(h:L.length=n)(x y:LB):(L ++ [x]).set n y=L ++ [y]:=by subst h; simp
def zuR:C:=
 (.seq (.seq (.scope (.reg true false [oM 19 7,
 oD 20 .geq 19 0,
 oM 21 20,
 oMg 22 4 21 true,
 oMg 23 7 21 true,
 ⟨some 24,.idxS 1 (.s 22) (.s 23),some (21,true)⟩,
 oLg 25 24 21 true,
 oLg 26 1 21 true,
 oMg 27 7 21 true,
 ⟨some 28,.idxS 1 (.s 26) (.s 27),some (21,true)⟩,
 oLg 29 28 21 true,
 oDg 30 .sub 29 1 21 true,
 ⟨some 31,.bin .eql (.s 25) (.s 30),some (21,true)⟩,
 ⟨some 32,.pick (.s 21) (.s 31) (.c (.bool false)),none⟩]))
 (.cond (.s 32) (.skip)
 (.exit 2)))
 (.block 3 (.seq (.reg true false [oM 33 6,
 oM 34 4,
 oM 35 7,
 oI 36 1 34 35,
 oL 37 36,
 oL 38 2,
 oM 39 7,
 oI 40 1 38 39,
 oL 41 40,
 oB 42 .mul 37 41,
 oB 43 .sub 33 42,
 oM 6 43])
 (.seq (rg [oM 44 4,
 oM 45 7,
 oI 46 1 44 45,
 ⟨none,.store 1 (.s 46) (.c (.int .i64 0)),none⟩])
 (rg [oM 47 7,
 oD 48 .sub 47 1,
 oM 7 48])))))
def znQ:C:=.block 1 (.seq (.seq (.reg false false [⟨some 11,.mov (.s 0),none⟩,
 ⟨some 12,.mov (.s 5),none⟩,
 ⟨some 13,.mov (.s 6),none⟩,
 ⟨some 14,.zbS (.s 11) [(.s 12),(.s 13)],none⟩,
 ⟨some 15,.un .not (.s 14),none⟩])
 (.cond (.s 15) (.ret)
 (.skip)))
 (.seq (.reg false false [⟨some 16,.load none (.s 1),none⟩,
 ⟨some 17,.len (.s 16),none⟩,
 ⟨some 18,.bin .sub (.s 17) (.c (.int .i64 1)),none⟩,
 ⟨some 7,.mov (.s 18),none⟩])
 (.seq (.scope (.block 2 (.loop zuR)))
 (.seq (.seq (.reg false false [⟨some 49,.mov (.s 7),none⟩,
 ⟨some 50,.bin .lss (.s 49) (.c (.int .i64 0)),none⟩])
 (.cond (.s 50) (.ret)
 (.skip)))
 (.seq (.reg false false [⟨some 51,.mov (.s 4),none⟩,
 ⟨some 52,.mov (.s 7),none⟩,
 ⟨some 53,.idxS 1 (.s 51) (.s 52),none⟩,
 ⟨some 54,.load none (.s 53),none⟩,
 ⟨some 55,.bin .add (.s 54) (.c (.int .i64 1)),none⟩,
 ⟨some 56,.idxS 1 (.s 51) (.s 52),none⟩,
 ⟨none,.store 1 (.s 56) (.s 55),none⟩])
 (.seq (.reg false false [⟨some 57,.mov (.s 6),none⟩,
 ⟨some 58,.load none (.s 2),none⟩,
 ⟨some 59,.mov (.s 7),none⟩,
 ⟨some 60,.idxS 1 (.s 58) (.s 59),none⟩,
 ⟨some 61,.load none (.s 60),none⟩,
 ⟨some 62,.bin .add (.s 57) (.s 61),none⟩,
 ⟨some 6,.mov (.s 62),none⟩])
 (.reg false false [⟨some 63,.mov (.s 5),none⟩,
 ⟨some 64,.bin .add (.s 63) (.c (.int .i64 1)),none⟩,
 ⟨some 5,.mov (.s 64),none⟩])))))))
def zxI:C:=.seq (.reg false false [⟨some 8,.load none (.s 1),none⟩,
 ⟨some 9,.len (.s 8),none⟩,
 ⟨some 10,.mk 1 8 [(.int .i64 0)] (.s 9) (.s 9),none⟩,
 ⟨some 4,.mov (.s 10),none⟩,
 ⟨some 5,.mov (.c (.int .i64 0)),none⟩,
 ⟨some 6,.mov (.c (.int .i64 0)),none⟩])
 (.scope (.block 0 (.loop znQ)))
theorem zvS:zkx mC 135=some (65,zxI,[],false):=zbY (by kernel_rfl)
theorem zdP{cards steps:List Int}{u:List (Int×Int×List Int)}(hu:zwZ cards steps=some u):
  Gen mC 135 [] [.fptr false ((eL (eI .i64)).c false cards),.fptr false ((eL (eI .i64)).c false steps)] u (fun y n0 args G=>args=[dI y.1,dI y.2.1]∧G=[.els 1 (y.2.2.map ((eI .i64).c true))]):=by
 intro n0 β P Ps hβ hlen hround L hP;refine zdk.ofM zvS (zbN rfl) (qaf rfl) ?_;obtain⟨_,hsm,hu⟩:=bind_some hu;obtain⟨z,hz,hv⟩:=bind_some hu;have hL:=hlen _ _ hP;have hm:IntKind.i64.wrap ((cards.length:Int) - 1)=(cards.length:Int) - 1:=by
  have:=zh3 hsm;exact wrap64 (by omega) (by omega)
 unfold zxI;refine zaa ?_;simp only[rnA,Nat.reduceEqDiff,Nat.reduceLT,Nat.reduceAdd,reduceCtorEq,zas,(zaA hz).1.1,(zaA hz).1.2,qbX,qaD,(show List.replicate cards.length [(dI 0)]=z.map ((eI .i64).c true)from(zbH hz ((eI .i64).c true)))];refine EvL.scope (zaa ?_);simp only[rnA];rw[hL];refine EvL.loop (α:=Nat×Nat×List Int×Int×Int×List LB) (fun a=>⟨65,[(0,.yld β),(1,.fptr false ((eL (eI .i64)).c false cards)),(2,.fptr false ((eL (eI .i64)).c false steps)),(4,.sl n0 0 1 cards.length (some cards.length) cards.length),(5,dI a.2.2.2.1),(6,dI a.2.2.2.2.1)],a.2.2.2.2.2 ++ [.els 1 (a.2.2.1.map ((eI .i64).c true))]⟩)
  (fun a=>P a.2.1 a.2.2.2.2.2∧zwA cards steps a.1 a.2.2.1 a.2.2.2.1 a.2.2.2.2.1=some (u.drop a.2.1)∧a.2.2.1.length=cards.length) (fun a=>a.1) ((cards.foldl (· * ·) 1).toNat,0,z,0,0,L) (by refine zbA.sub ?_; exact⟨rfl,rfl,rfl,rfl,rfl,rfl,qc8⟩) ⟨hP,hv,by rw[zbs hz,qaD]⟩ ?_
 rintro⟨n,j,vals,i,at_,L'⟩ ⟨hPi,hvk,hvl⟩;simp only at hPi hvk hvl;cases n with
 | zero=>cases hvk
 | succ n=>
 unfold zwA at hvk;obtain⟨⟨vals1,at1,kk⟩,hc,hvk⟩:=bind_some hvk;simp only at hvk;have hul:∃ r,u.drop j=(i,at_,vals):: r:=by
  cases hk:decide (kk<0)with
  | true=>rw[hk,cond_true]at hvk; exact⟨[],(qac hvk).symm⟩
  | false=>
   rw[hk,cond_false]at hvk;obtain⟨v,_,hvk⟩:=bind_some hvk;obtain⟨vals2,_,hvk⟩:=bind_some hvk;obtain⟨st,_,hvk⟩:=bind_some hvk;obtain⟨l,_,hl⟩:=zkU hvk;exact⟨l,hl⟩
 obtain⟨r,hul⟩:=hul;have hj:j<u.length:=by
  refine Nat.lt_of_not_le fun hn=>?_
  rw[qbc hn]at hul;cases hul
 have huj:u[j]? = some (i,at_,vals):=by
  rw[qav hj]at hul;rw[qad hj,(qcK hul).1]
 have hur:u.drop (j+1)=r:=by
  rw[qav hj]at hul;exact(qcK hul).2
 unfold znQ;refine zaa ?_;simp only[rnA,Nat.reduceEqDiff,Nat.reduceLT,reduceCtorEq];refine EvL.yield rfl rfl rfl (hround j (i,at_,vals) L' _ [.els 1 (vals.map ((eI .i64).c true))] huj hPi ⟨rfl,rfl⟩) ?_;rintro b L2 ⟨L1,rfl,hl1,hb⟩;cases b with
 | false=>
  simp only[rnA,Nat.reduceEqDiff,Nat.reduceLT,reduceCtorEq];exact⟨[],rfl,L1,_,rfl,hl1,.inr hb⟩
 | true=>
 have hga:=zu6 hl1;have hsa:=zvd hl1;simp only[rnA,Nat.reduceEqDiff,Nat.reduceLT,reduceCtorEq,zas,hm];refine EvL.jn (fun a:List Int×Int×Int=>⟨65,[(0,.yld β),(1,.fptr false ((eL (eI .i64)).c false cards)),(2,.fptr false ((eL (eI .i64)).c false steps)),(4,.sl n0 0 1 cards.length (some cards.length) cards.length),(5,dI i),(6,dI a.2.1),(7,dI a.2.2)],L1 ++ [.els 1 (a.1.map ((eI .i64).c true))]⟩) (fun a=>a=(vals1,at1,kk)∧a.1.length=cards.length) ?_ ?_
 ·refine zaa ?_;simp only[rnA];refine EvL.loop (α:=Nat×List Int×Int) (fun a=>⟨65,[(0,.yld β),(1,.fptr false ((eL (eI .i64)).c false cards)),(2,.fptr false ((eL (eI .i64)).c false steps)),(4,.sl n0 0 1 cards.length (some cards.length) cards.length),(5,dI i),(6,dI a.2.2),(7,dI ((a.1:Int) - 1))],L1 ++ [.els 1 (a.2.1.map ((eI .i64).c true))]⟩)
   (fun a=>ziL cards steps a.1 a.2.1 a.2.2=some (vals1,at1,kk)∧a.2.1.length=cards.length∧a.1≤cards.length) (fun a=>a.1) (cards.length,vals,at_) (by refine zbA.sub ?_; exact⟨rfl,rfl,rfl,rfl,rfl,rfl,rfl,qc8⟩) ⟨hc,hvl,qam _⟩ ?_
  rintro⟨f,vs,a⟩ ⟨hf,hvs,hfl⟩;simp only at hf hvs hfl;simp only[zuR,zm6];refine zaa ?_;simp only[rnA];cases f with
  | zero=>
   cases hf;refine EvL.scope (zaa ?_);have hk:((0:Nat):Int) - 1 = -1:=rfl;simp only[rnA,Nat.reduceEqDiff,Nat.reduceLT,Int.reduceLE,reduceCtorEq,hk];exact⟨_,⟨rfl,hvs⟩,zbA.sub ⟨rfl,rfl,rfl,rfl,rfl,rfl,rfl,qc8⟩⟩
  | succ f=>
   have hk:((f+1:Nat):Int) - 1=(f:Int):=by omega
   have hk0:(0:Int)≤(f:Int):=by omega
   unfold ziL at hf;obtain⟨v,q1,hf⟩:=bind_some hf;obtain⟨c,q2,hf⟩:=bind_some hf;refine EvL.scope (zaa ?_);cases hb:(v == w64 (c - 1))with
   | false=>
    rw[hb,cond_false]at hf;cases hf;simp only[rnA,Nat.reduceEqDiff,Nat.reduceLT,reduceCtorEq,hk,hk0,hga,hvs,(show(f:Int)<((cards.length:Nat):Int)from hvs ▸ zbj q1),zaS q1 ((eI .i64).c true),zal (n:=1) (e:=eI .i64) rfl q2,hb];exact⟨_,⟨rfl,hvs⟩,zbA.sub ⟨rfl,rfl,rfl,rfl,rfl,rfl,rfl,qc8⟩⟩
   | true=>
    rw[hb,cond_true]at hf;obtain⟨st,q3,hf⟩:=bind_some hf;obtain⟨vs',q4,hf⟩:=bind_some hf;have hw:IntKind.i64.wrap ((f:Int) - 1)=(f:Int) - 1:=by
     have:=zh3 hsm;exact wrap64 (by omega) (by omega)
    simp only[rnA,Nat.reduceEqDiff,Nat.reduceLT,Nat.reduceLeDiff,reduceCtorEq,hk,hk0,hga,hsa,hvs,(show(f:Int)<((cards.length:Nat):Int)from hvs ▸ zbj q1),zaS q1 ((eI .i64).c true),zal (n:=1) (e:=eI .i64) rfl q2,zal (n:=1) (e:=eI .i64) rfl q3,hb,(show(vs.map ((eI .i64).c true)).set (f:Int).toNat [dI 0]=vs'.map ((eI .i64).c true)from zby q4 ((eI .i64).c true)),hw];exact⟨(f,vs',w64 (a - w64 (v * st))),⟨hf,by rw[zbe q4]; exact hvs,by omega⟩,qbN f,zbA.sub ⟨rfl,rfl,rfl,rfl,rfl,rfl,rfl,qc8⟩⟩
 rintro a ⟨rfl,hvs⟩;simp only at hvs;refine zaa ?_;cases hk:decide (kk<0)with
 | true=>
  rw[hk,cond_true]at hvk;simp only[rnA,Nat.reduceEqDiff,Nat.reduceLT,reduceCtorEq,hk];have h1:u.length=j+1:=by
   have h2:=qac hvk;have h3:u.drop (j+1)=[]:=by
    rw[hur];rw[← h2]at hul;exact(qcK hul).2.symm
   have h4:=List.drop_eq_nil_iff.1 h3;omega
  exact⟨[],rfl,L1,_,rfl,hl1,.inl (by rw[h1]; exact hb)⟩
 | false=>
  rw[hk,cond_false]at hvk;obtain⟨v,q1,hvk⟩:=bind_some hvk;obtain⟨vals2,q2,hvk⟩:=bind_some hvk;obtain⟨st,q3,hvk⟩:=bind_some hvk;obtain⟨l,q4,hl⟩:=zkU hvk;simp only[rnA,Nat.reduceEqDiff,Nat.reduceLT,Nat.reduceLeDiff,reduceCtorEq,hk,hga,hsa,hvs,zbk q1,(show kk<((cards.length:Nat):Int)from hvs ▸ zbj q1),zaS q1 ((eI .i64).c true),(show(vals1.map ((eI .i64).c true)).set kk.toNat [dI (w64 (v+1))]=vals2.map ((eI .i64).c true)from zby q2 ((eI .i64).c true)),zal (n:=1) (e:=eI .i64) rfl q3];refine⟨(n,j+1,vals2,w64 (i+1),w64 (at1+st),L1),⟨hb,?_,by rw[zbe q2]; exact hvs⟩,qbN n,zbA.sub ⟨rfl,rfl,rfl,rfl,rfl,rfl,qc8⟩⟩;simp only;rw[q4,hur];rw[hul]at hl;rw[(qcK hl).2]
def zaU(p0:(List Int))(p1:Int):Nat→Int→Option (Out Unit Int)
 | 0,_=>none
 | n+1,v8=>(
bif (decide (v8<(p0.length:Int)))then(
(za5 p0 v8).bind fun x2=>
bif (p1 == x2)then(
some (.ret v8))
else(
zaU p0 p1 n (w64 (v8+1))))
else(
some (.go ())))
def za9(p0:(List Int))(p1:Int):Option Int:=
((zaU p0 p1 ((p0.length:Int) - 0+2:Int).toNat 0:Option (Out Unit Int))).bind fun o=>match o with
| .go _=>(
some (-1))
| .ret r=>some r
theorem zeC{p0:(List Int)}{p1:Int}{r:Int}(h:za9 p0 p1=some r):Lx.Fn mC 136 [(fzE false (eI .i64) p0),(dI p1)] (dI r):=by
 refine fnO (by conv=>lhs; cbv) ?_;unfold za9 at h;refine zaa ?_;try simp only[rnA,Nat.reduceEqDiff,Nat.reduceLT,Nat.reduceAdd,reduceCtorEq,zas]
 obtain⟨o1,j1,h⟩:=bind_some h;obtain⟨T1,hT1⟩:=mkT fun a:Unit=>⟨19,[],[]⟩
 refine EvL.jn T1 (fun a=>o1=.go a) ?_ ?_
 ·refine zaa ?_;simp only[rnA];obtain⟨T2,hT2⟩:=mkT fun a:Int=>⟨19,[(0,(fzE false (eI .i64) p0)),(1,(dI p1)),(7,(dI (p0.length:Int))),(8,(dI a))],[]⟩
  refine EvL.rounds (α:=Int) T2 (fun n a=>zaU p0 p1 n a=some o1) ((p0.length:Int) - 0+2:Int).toNat 0 (by rw[hT2]; exact wm0 [] (by exact trivial)) j1 (fun _ h=>nomatch (show(none:Option (Out Unit Int))=some o1 from h)) ?_;rintro n v8 j1;simp only[zaU]at j1;rw[congrFun hT2 v8];refine zaa ?_;try simp only[rnA,Nat.reduceEqDiff,Nat.reduceLT,reduceCtorEq]
  cases c1:(decide (v8<(p0.length:Int)))
  ·rw[c1,cond_false]at j1;try simp only[rnA]
   replace j1:=qac j1; subst j1;exact lfj hT1 rfl (wm0 [] (by exact trivial))
  rw[c1,cond_true]at j1;obtain⟨x2,g3,j1⟩:=bind_some j1;try simp only[rnA,Nat.reduceEqDiff,Nat.reduceLT,reduceCtorEq,zal (n:=1) (e:=(eI .i64)) rfl g3]
  cases c4:(p1 == x2)
  ·rw[c4,cond_false]at j1;try simp only[rnA,Nat.reduceEqDiff,Nat.reduceLT,reduceCtorEq]
   exact⟨(w64 (v8+1)),j1,by rw[hT2]; exact wm0 [] (by exact trivial)⟩
  rw[c4,cond_true]at j1;try simp only[rnA,Nat.reduceEqDiff,Nat.reduceLT,reduceCtorEq]
  replace j1:=qac j1; subst j1;dsimp only at h;replace h:=qac h; subst h;exact zdd.ret rfl (.lit _)
 rintro⟨⟩ rfl;dsimp only at h;rw[congrFun hT1 ()];refine zaa ?_;try simp only[rnA,Nat.reduceLT]
 replace h:=qac h; subst h;exact zdd.ret rfl (.lit _)
def zaC(p0:S_factor_table)(p1:Int):Option Int:=
(za9 p0.factor.vars p1).bind fun r1=>
some r1
theorem zbg{p0:S_factor_table}{p1:Int}{r:Int}(h:zaC p0 p1=some r):Lx.Fn mC 96 [(.agg [(fzE false (eI .i64) p0.factor.vars),(fzE false (eI .i64) p0.factor.cards),(fzE false (eI .i64) p0.factor.w),(fzE false (eI .i64) p0.steps)]),(dI p1)] (dI r):=by
 refine fnO (by conv=>lhs; cbv) ?_;unfold zaC at h;refine zaa ?_;obtain⟨r1,g2,h⟩:=bind_some h;try simp only[rnA,Nat.reduceEqDiff,reduceIte,Nat.reduceLT,Nat.reduceAdd,Nat.reduceLeDiff,Nat.reduceMul,Nat.reduceSub,Int.reduceLE,Int.reduceLT,Int.reduceBEq,Nat.reduceBEq,reduceCtorEq,zef,zeU]
 refine EvL.fn (zeC g2) rfl rfl (.cons (zaj _ _ (fun h=>nomatch h)) (.cons (.lit _) .nil)) ?_;try simp only[rnA,Nat.reduceEqDiff,reduceIte,Nat.reduceLT,Nat.reduceAdd,Nat.reduceLeDiff,Nat.reduceMul,Nat.reduceSub,Int.reduceLE,Int.reduceLT,Int.reduceBEq,Nat.reduceBEq,reduceCtorEq,zef]
 replace h:=qac h; subst h;exact zdd.ret rfl (.lit _)
def zdh(p0:Int)(p1:Int):Option (Int×Bool):=
some ((w64 (p0+p1)),(decide ((w64 (p0+p1))≤4611686018427387903)))
theorem zju{p0:Int}{p1:Int}{r:(Int×Bool)}(h:zdh p0 p1=some r):Lx.Fn mC 101 [(dI p0),(dI p1)] (.tup [(dI r.1),(dB r.2)]):=by
 refine fnO (by conv=>lhs; cbv) ?_;unfold zdh at h;refine zaa ?_;try simp only[rnA,Nat.reduceEqDiff,reduceIte,Nat.reduceLT,Nat.reduceAdd,Nat.reduceLeDiff,Nat.reduceMul,Nat.reduceSub,Int.reduceLE,Int.reduceLT,Int.reduceBEq,Nat.reduceBEq,reduceCtorEq]
 replace h:=qac h; subst h;exact zdd.ret rfl (Snp.zfI (.cons (.lit _) (.cons (.lit _) .nil)))
def zay(p1:(List Int))(p0:S_factor_table):Nat→Int→Int→(List Int)→Option (Int×(List Int))
 | 0,_,_,_=>none
 | n+1,v9,v24,l3=>(
bif (decide (v24<(p1.length:Int)))then(
(za5 p1 v24).bind fun x4=>
(zaC p0 x4).bind fun r6=>
(za5 p0.factor.cards r6).bind fun x8=>
(za5 l3 v24).bind fun x10=>
(zeP l3 v24 x8).bind fun y12=>
zay p1 p0 n (w64 (v9 * x8)) (w64 (v24+1)) y12)
else(
some (v9,l3)))
def zat(p1:(List Int))(p0:S_factor_table)(l3:(List Int)):Nat→Int→Int→(List Int)→Option (List Int)
 | 0,_,_,_=>none
 | n+1,v14,v15,l6=>(
bif (decide (0≤v15))then(
(za5 p1 v15).bind fun x19=>
(zaC p0 x19).bind fun r21=>
(za5 l6 r21).bind fun x23=>
(zeP l6 r21 v14).bind fun y25=>
(za5 l3 v15).bind fun x27=>
zat p1 p0 l3 n (w64 (v14 * x27)) (w64 (v15 - 1)) y25)
else(
some l6))
def zau(p0:S_factor_table)(v9:Int):List (Int×Int×(List Int))→(List Int)→Option (Out3 (List Int) (List Int) Empty)
 | [],l4=>some (.go l4)
 | y33 :: ys,l4=>(
(za5 l4 y33.2.1).bind fun x34=>
(za5 p0.factor.w y33.1).bind fun x36=>
(zdh x34 x36).bind fun r38=>
(zeP l4 y33.2.1 r38.1).bind fun y40=>
bif r38.2 then(
zau p0 v9 ys y40)
else(
some (.brk y40)))
def zaY(p0:S_factor_table)(p1:(List Int)):Option (S_api_Factor×Int):=
(zd5 8 (p1.length:Int) 0).bind fun y1=>
((zay p1 p0 ((p1.length:Int) - 0+2:Int).toNat 1 0 y1:Option ((Int×(List Int))))).bind fun o=>match o with
|(v9,l3)=>(
(zd5 8 v9 0).bind fun y14=>
(zd5 8 (p0.factor.vars.length:Int) 0).bind fun y16=>
((zat p1 p0 l3 ((w64 ((p1.length:Int) - 1)) - 0+2:Int).toNat 1 (w64 ((p1.length:Int) - 1)) y16:Option (List Int))).bind fun l6=>
(zcx p0.factor.cards l6).bind fun r29=>
(((zwZ r29.1 r29.2).bind fun u31=>
((zau p0 v9 u31 y14:Option (Out3 (List Int) (List Int) Empty))).bind fun o=>match o with
| .go l4=>(
some (true,l4))
| .brk l4=>(
some (false,l4))
| .ret r=>nomatch r:Option ((Bool×(List Int))))).bind fun o=>match o with
|(b7_0,l4)=>(
bif b7_0 then(
some ((S_api_Factor.mk p1 l3 l4),0))
else(
some ((S_api_Factor.mk [] [] []),6))))
def zcE:C:=
 .seq (rg [oW 3 0,
 oW 5 2,
 ⟨some 6,.alloc [(.slice none 0 0),(.slice none 0 0),(.slice none 0 0)],none⟩,
 oK 7 0])
 (.scope (.seq (rg [oM 19 1,
 oE 20 19,
 ⟨some 21,.mk 1 8 [(.int .i64 0)] (.s 20) (.s 20),none⟩,
 oM 8 21,
 oK 9 1])
 (.seq (.seq (rg [oM 22 1,
 oE 23 22,
 oK 24 0])
 (.scope (.block 0 (.loop (.seq (rg [oB 25 .lss 24 23])
 (.seq (.cond (.s 25) (.skip)
 (.exit 0))
 (.seq (.block 1 (.seq (rg [oM 26 24,
 oI 27 1 22 24,
 oL 28 27,
 oM 10 26,
 oM 11 28])
 (.seq (.reg true true [oM 29 8,
 oM 30 10,
 oF 31 0 3,
 oF 32 1 31,
 oL 33 32,
 oN 34 4 3,
 oM 35 11,
 oV 36 96 34 35,
 oI 37 1 33 36,
 oL 38 37,
 oI 39 1 29 30,
 oS 1 39 38])
 (rg [oM 40 9,
 oM 41 8,
 oM 42 10,
 oI 43 1 41 42,
 oL 44 43,
 oB 45 .mul 40 44,
 oM 9 45]))))
 (rg [oD 46 .add 24 1,
 oM 24 46]))))))))
 (.seq (.reg true false [oM 47 9,
 oF 49 0 3,
 oF 50 0 49,
 oL 51 50,
 oE 52 51,
 ⟨some 48,.mk 1 8 [(.int .i64 0)] (.s 47) (.s 47),none⟩,
 ⟨some 12,.alloc [(.slice none 0 0)],none⟩,
 ⟨none,.avo [(.s 50)] (.s 12),none⟩,
 oS 1 12 48,
 ⟨some 53,.mk 1 8 [(.int .i64 0)] (.s 52) (.s 52),none⟩,
 oM 13 53,
 oK 14 1])
 (.seq (.seq (rg [oM 54 1,
 oE 55 54,
 oD 56 .sub 55 1,
 oM 15 56])
 (.scope (.block 2 (.loop (.seq (.seq (rg [oM 57 15,
 oD 58 .geq 57 0])
 (.cond (.s 58) (.skip)
 (.exit 2)))
 (.seq (.block 3 (.seq (.reg true false [oM 61 13,
 oN 62 4 3,
 oM 63 1,
 oM 64 15,
 oI 65 1 63 64,
 oL 66 65,
 oM 68 14,
 oV 67 96 62 66,
 oI 69 1 61 67,
 oS 1 69 68])
 (rg [oM 70 14,
 oM 71 8,
 oM 72 15,
 oI 73 1 71 72,
 oL 74 73,
 oB 75 .mul 70 74,
 oM 14 75])))
 (rg [oM 59 15,
 oD 60 .sub 59 1,
 oM 15 60])))))))
 (.seq (rg [⟨some 16,.alloc [(.bool false)],none⟩,
 ⟨none,.store 1 (.s 16) (.c (.bool true)),none⟩])
 (.seq (.label 0)
 (.seq (.seq (rg [oF 76 0 3,
 oF 77 1 76,
 oL 78 77,
 oM 79 13,
 oV 80 93 78 79])
 (.scope (.block 4 (.zd4 (.s 80) [81,82] (.seq (rg [oM 17 81])
 (rg [oM 18 82]))
 (.block 5 (.seq (.reg true true [oL 84 12,
 oM 85 18,
 oF 86 0 5,
 oL 87 86,
 oL 88 12,
 oM 89 18,
 oI 90 1 88 89,
 oL 91 90,
 oF 92 0 3,
 oF 93 2 92,
 oL 94 93,
 oM 95 17,
 oI 96 1 94 95,
 oL 97 96,
 ⟨some 98,.zbS (.s 87) [(.s 91),(.s 97)],none⟩,
 oM 83 98,
 oX 99 83 0,
 oX 100 83 1,
 oI 101 1 84 85,
 oS 1 101 99,
 oS 1 16 100])
 (.block 6 (.seq (rg [oL 103 16,
 ⟨some 104,.un .not (.s 103),none⟩,
 oM 102 104])
 (.cond (.s 102) (.exit 4)
 (.skip))))))))))
 (.seq (.seq (rg [oL 105 16,
 ⟨some 106,.un .not (.s 105),none⟩])
 (.cond (.s 106) (.seq (rg [⟨some 107,.build [(.slice none 0 0),(.slice none 0 0),(.slice none 0 0)] [],none⟩,
 oS 3 6 107,
 oK 7 6])
 (.ret))
 (.skip)))
 (.seq (rg [oM 108 1,
 oM 109 8,
 oL 110 12,
 ⟨some 111,.build [(.slice none 0 0),(.slice none 0 0),(.slice none 0 0)] [(0,1,(.s 108)),(1,1,(.s 109)),(2,1,(.s 110))],none⟩,
 oS 3 6 111,
 oK 7 0])
 (.ret)))))))))))
theorem zdM:zkx mC 106=some (112,zcE,[.cell 6 (some 3),.tmp 7],false):=zbY (by kernel_rfl)
theorem zd1{p0:S_factor_table}{p1:(List Int)}{r:(S_api_Factor×Int)}(h:zaY p0 p1=some r):Lx.FnA mC 106 [(.agg [(fzE false (eI .i64) p0.factor.vars),(fzE false (eI .i64) p0.factor.cards),(fzE false (eI .i64) p0.factor.w),(fzE false (eI .i64) p0.steps)]),(fzE false (eI .i64) p1),(.agg [(.clo 101 [] [])])] (.tup [(.agg [(fzE false (eI .i64) r.1.vars),(fzE false (eI .i64) r.1.cards),(fzE false (eI .i64) r.1.w)]),(dI r.2)]):=by
 refine FnA.of zdM (zbN rfl) (qaf rfl) ?_;unfold zaY at h;simp only[zcE,zm6];refine zaa ?_;try simp only[rnA,Nat.reduceEqDiff,Nat.reduceLT,Nat.reduceAdd,reduceCtorEq]
 refine EvL.scope (zaa ?_);obtain⟨y1,g2,h⟩:=bind_some h;try simp only[rnA,Nat.reduceEqDiff,Nat.reduceLT,Nat.reduceAdd,reduceCtorEq,zas,(zaA g2).1.1,(zaA g2).1.2,qbX,(show List.replicate (Int.toNat (p1.length:Int)) [(dI 0)]=y1.map ((eI .i64).c true)from zbH g2 ((eI .i64).c true))]
 obtain⟨o8,j8,h⟩:=bind_some h;obtain⟨T8,hT8⟩:=mkT fun a:(Int×(List Int))=>⟨112,[(1,(fzE false (eI .i64) p1)),(3,(.ptr 0 0)),(5,(.ptr 1 0)),(6,(.ptr 2 0)),(8,(.sl 3 0 1 (Int.toNat (p1.length:Int)) (some (Int.toNat (p1.length:Int))) (Int.toNat (p1.length:Int)))),(9,(dI a.1))],[.cells [(fzE false (eI .i64) p0.factor.vars),(fzE false (eI .i64) p0.factor.cards),(fzE false (eI .i64) p0.factor.w),(fzE false (eI .i64) p0.steps)],.cells [(.clo 101 [] [])],.cells [zaJ,zaJ,zaJ],.els 1 (a.2.map ((eI .i64).c true))]⟩
 refine EvL.jn T8 (fun a=>a=o8∧a.2.length=(Int.toNat (p1.length:Int))) ?_ ?_
 ·refine zaa ?_;simp only[rnA];obtain⟨T9,hT9⟩:=mkT fun a:(Int×Int×(List Int))=>⟨112,[(1,(fzE false (eI .i64) p1)),(3,(.ptr 0 0)),(5,(.ptr 1 0)),(6,(.ptr 2 0)),(8,(.sl 3 0 1 (Int.toNat (p1.length:Int)) (some (Int.toNat (p1.length:Int))) (Int.toNat (p1.length:Int)))),(9,(dI a.1)),(22,(fzE false (eI .i64) p1)),(23,(dI (p1.length:Int))),(24,(dI a.2.1))],[.cells [(fzE false (eI .i64) p0.factor.vars),(fzE false (eI .i64) p0.factor.cards),(fzE false (eI .i64) p0.factor.w),(fzE false (eI .i64) p0.steps)],.cells [(.clo 101 [] [])],.cells [zaJ,zaJ,zaJ],.els 1 (a.2.2.map ((eI .i64).c true))]⟩
  refine EvL.rounds (α:=(Int×Int×(List Int))) T9 (fun n a=>zay p1 p0 n a.1 a.2.1 a.2.2=some o8∧a.2.2.length=(Int.toNat (p1.length:Int))) ((p1.length:Int) - 0+2:Int).toNat (1,0,y1) (by rw[hT9]; exact wm0 [.k,.k,.k,.k] ⟨MB.cs ⟨qc8,qc8,qc8,qc8,qc8⟩,⟨MB.cs ⟨⟨qc8,qc8⟩,qc8⟩,⟨MB.cs ⟨qc8,qc8,qc8,qc8⟩,⟨MB.es (eI .i64) true y1,qc8⟩⟩⟩⟩) ⟨j8,zbs g2⟩ (fun _ h=>nomatch (show(none:Option (Int×(List Int)))=some o8 from h.1)) ?_;rintro n ⟨v9,v24,l3⟩ ⟨j8,el3⟩;simp only[zay]at j8;rw[congrFun hT9 (v9,v24,l3)];refine zaa ?_;try simp only[rnA,Nat.reduceEqDiff,Nat.reduceLT]
  cases c3:(decide (v24<(p1.length:Int)))
  ·rw[c3,cond_false]at j8;try simp only[rnA]
   replace j8:=qac j8; subst j8;exact⟨_,⟨rfl,el3⟩,by rw[hT8]; exact wm0 [.k,.k,.k,.k] ⟨MB.cs ⟨qc8,qc8,qc8,qc8,qc8⟩,⟨MB.cs ⟨⟨qc8,qc8⟩,qc8⟩,⟨MB.cs ⟨qc8,qc8,qc8,qc8⟩,⟨MB.es (eI .i64) true l3,qc8⟩⟩⟩⟩⟩
  rw[c3,cond_true]at j8;obtain⟨x4,g5,j8⟩:=bind_some j8;obtain⟨r6,g7,j8⟩:=bind_some j8;try simp only[rnA,Nat.reduceEqDiff,Nat.reduceLT,Nat.reduceAdd,Nat.reduceLeDiff,zal (n:=1) (e:=(eI .i64)) rfl g5]
  refine EvL.fn (zbg g7) rfl rfl (.cons (.zeD (.cons (zaj _ _ (fun h=>nomatch h)) (.cons (zaj _ _ (fun h=>nomatch h)) (.cons (zaj _ _ (fun h=>nomatch h)) (.cons (zaj _ _ (fun h=>nomatch h)) .nil))))) (.cons (.lit _) .nil)) ?_;obtain⟨x8,g9,j8⟩:=bind_some j8;obtain⟨x10,g11,j8⟩:=bind_some j8;obtain⟨y12,g13,j8⟩:=bind_some j8;try simp only[rnA,Nat.reduceEqDiff,Nat.reduceLT,Nat.reduceLeDiff,zal (n:=1) (e:=(eI .i64)) rfl g9,el3,zbk g11,(show v24<(((Int.toNat (p1.length:Int)):Nat):Int)from el3 ▸ zbj g11),zaS g11 ((eI .i64).c true),(show(l3.map ((eI .i64).c true)).set v24.toNat [(dI x8)]=y12.map ((eI .i64).c true)from zby g13 ((eI .i64).c true)),(zbe g13).trans el3,zaS (zsu g13) ((eI .i64).c true)]
  exact⟨((w64 (v9 * x8)),(w64 (v24+1)),y12),⟨j8,(zbe g13).trans el3⟩,by rw[hT9]; exact wm0 [.k,.k,.k,.k] ⟨MB.cs ⟨qc8,qc8,qc8,qc8,qc8⟩,⟨MB.cs ⟨⟨qc8,qc8⟩,qc8⟩,⟨MB.cs ⟨qc8,qc8,qc8,qc8⟩,⟨MB.es (eI .i64) true y12,qc8⟩⟩⟩⟩⟩
 rintro⟨v9,l3⟩ ⟨rfl,el3⟩;dsimp only at h;rw[congrFun hT8 (v9,l3)];refine zaa ?_;obtain⟨y14,g15,h⟩:=bind_some h;obtain⟨y16,g17,h⟩:=bind_some h;try simp only[rnA,Nat.reduceEqDiff,Nat.reduceLT,Nat.reduceAdd,Nat.reduceLeDiff,Nat.reduceBEq,zas,(zaA g15).1.1,(zaA g15).1.2,qbX,(show List.replicate (Int.toNat v9) [(dI 0)]=y14.map ((eI .i64).c true)from zbH g15 ((eI .i64).c true)),(zaA g17).1.1,(zaA g17).1.2,(show List.replicate (Int.toNat (p0.factor.vars.length:Int)) [(dI 0)]=y16.map ((eI .i64).c true)from zbH g17 ((eI .i64).c true))]
 obtain⟨o10,j10,h⟩:=bind_some h;obtain⟨T10,hT10⟩:=mkT fun a:(List Int)=>⟨112,[(1,(fzE false (eI .i64) p1)),(3,(.ptr 0 0)),(5,(.ptr 1 0)),(6,(.ptr 2 0)),(8,(.sl 3 0 1 (Int.toNat (p1.length:Int)) (some (Int.toNat (p1.length:Int))) (Int.toNat (p1.length:Int)))),(12,(.ptr 5 0)),(13,(.sl 6 0 1 (Int.toNat (p0.factor.vars.length:Int)) (some (Int.toNat (p0.factor.vars.length:Int))) (Int.toNat (p0.factor.vars.length:Int))))],[.cells [(fzE false (eI .i64) p0.factor.vars),(fzE false (eI .i64) p0.factor.cards),(fzE false (eI .i64) p0.factor.w),(fzE false (eI .i64) p0.steps)],.cells [(.clo 101 [] [])],.cells [zaJ,zaJ,zaJ],.els 1 (l3.map ((eI .i64).c true)),.els 1 (y14.map ((eI .i64).c true)),.cells [(.sl 4 0 1 (Int.toNat v9) (some (Int.toNat v9)) (Int.toNat v9))],.els 1 (a.map ((eI .i64).c true))]⟩
 refine EvL.jn T10 (fun a=>a=o10∧a.length=(Int.toNat (p0.factor.vars.length:Int))) ?_ ?_
 ·refine zaa ?_;simp only[rnA];obtain⟨T11,hT11⟩:=mkT fun a:(Int×Int×(List Int))=>⟨112,[(1,(fzE false (eI .i64) p1)),(3,(.ptr 0 0)),(5,(.ptr 1 0)),(6,(.ptr 2 0)),(8,(.sl 3 0 1 (Int.toNat (p1.length:Int)) (some (Int.toNat (p1.length:Int))) (Int.toNat (p1.length:Int)))),(12,(.ptr 5 0)),(13,(.sl 6 0 1 (Int.toNat (p0.factor.vars.length:Int)) (some (Int.toNat (p0.factor.vars.length:Int))) (Int.toNat (p0.factor.vars.length:Int)))),(14,(dI a.1)),(15,(dI a.2.1))],[.cells [(fzE false (eI .i64) p0.factor.vars),(fzE false (eI .i64) p0.factor.cards),(fzE false (eI .i64) p0.factor.w),(fzE false (eI .i64) p0.steps)],.cells [(.clo 101 [] [])],.cells [zaJ,zaJ,zaJ],.els 1 (l3.map ((eI .i64).c true)),.els 1 (y14.map ((eI .i64).c true)),.cells [(.sl 4 0 1 (Int.toNat v9) (some (Int.toNat v9)) (Int.toNat v9))],.els 1 (a.2.2.map ((eI .i64).c true))]⟩
  refine EvL.rounds (α:=(Int×Int×(List Int))) T11 (fun n a=>zat p1 p0 l3 n a.1 a.2.1 a.2.2=some o10∧a.2.2.length=(Int.toNat (p0.factor.vars.length:Int))) ((w64 ((p1.length:Int) - 1)) - 0+2:Int).toNat (1,(w64 ((p1.length:Int) - 1)),y16) (by rw[hT11]; exact wm0 [.k,.k,.k,.k,.k,.k,.k] ⟨MB.cs ⟨qc8,qc8,qc8,qc8,qc8⟩,⟨MB.cs ⟨⟨qc8,qc8⟩,qc8⟩,⟨MB.cs ⟨qc8,qc8,qc8,qc8⟩,⟨MB.es (eI .i64) true l3,⟨MB.es (eI .i64) true y14,⟨MB.cs ⟨rfl,qc8⟩,⟨MB.es (eI .i64) true y16,qc8⟩⟩⟩⟩⟩⟩⟩) ⟨j10,zbs g17⟩ (fun _ h=>nomatch (show(none:Option (List Int))=some o10 from h.1)) ?_;rintro n ⟨v14,v15,l6⟩ ⟨j10,el6⟩;simp only[zat]at j10;rw[congrFun hT11 (v14,v15,l6)];refine zaa ?_;try simp only[rnA,Nat.reduceEqDiff,Nat.reduceLT]
  cases c18:(decide (0≤v15))
  ·rw[c18,cond_false]at j10;try simp only[rnA]
   replace j10:=qac j10; subst j10;exact⟨_,⟨rfl,el6⟩,by rw[hT10]; exact wm0 [.k,.k,.k,.k,.k,.k,.k] ⟨MB.cs ⟨qc8,qc8,qc8,qc8,qc8⟩,⟨MB.cs ⟨⟨qc8,qc8⟩,qc8⟩,⟨MB.cs ⟨qc8,qc8,qc8,qc8⟩,⟨MB.es (eI .i64) true l3,⟨MB.es (eI .i64) true y14,⟨MB.cs ⟨rfl,qc8⟩,⟨MB.es (eI .i64) true l6,qc8⟩⟩⟩⟩⟩⟩⟩⟩
  rw[c18,cond_true]at j10;obtain⟨x19,g20,j10⟩:=bind_some j10;obtain⟨r21,g22,j10⟩:=bind_some j10;try simp only[rnA,Nat.reduceEqDiff,Nat.reduceLT,Nat.reduceAdd,Nat.reduceLeDiff,zal (n:=1) (e:=(eI .i64)) rfl g20]
  refine EvL.fn (zbg g22) rfl rfl (.cons (.zeD (.cons (zaj _ _ (fun h=>nomatch h)) (.cons (zaj _ _ (fun h=>nomatch h)) (.cons (zaj _ _ (fun h=>nomatch h)) (.cons (zaj _ _ (fun h=>nomatch h)) .nil))))) (.cons (.lit _) .nil)) ?_;obtain⟨x23,g24,j10⟩:=bind_some j10;obtain⟨y25,g26,j10⟩:=bind_some j10;obtain⟨x27,g28,j10⟩:=bind_some j10;try simp only[rnA,Nat.reduceEqDiff,Nat.reduceLT,Nat.reduceLeDiff,el6,zbk g24,(show r21<(((Int.toNat (p0.factor.vars.length:Int)):Nat):Int)from el6 ▸ zbj g24),zaS g24 ((eI .i64).c true),(show(l6.map ((eI .i64).c true)).set r21.toNat [(dI v14)]=y25.map ((eI .i64).c true)from zby g26 ((eI .i64).c true)),el3,zbk g28,(show v15<(((Int.toNat (p1.length:Int)):Nat):Int)from el3 ▸ zbj g28),zaS g28 ((eI .i64).c true)]
  exact⟨((w64 (v14 * x27)),(w64 (v15 - 1)),y25),⟨j10,(zbe g26).trans el6⟩,by rw[hT11]; exact wm0 [.k,.k,.k,.k,.k,.k,.k] ⟨MB.cs ⟨qc8,qc8,qc8,qc8,qc8⟩,⟨MB.cs ⟨⟨qc8,qc8⟩,qc8⟩,⟨MB.cs ⟨qc8,qc8,qc8,qc8⟩,⟨MB.es (eI .i64) true l3,⟨MB.es (eI .i64) true y14,⟨MB.cs ⟨rfl,qc8⟩,⟨MB.es (eI .i64) true y25,qc8⟩⟩⟩⟩⟩⟩⟩⟩
 rintro l6 ⟨rfl,el6⟩;rw[congrFun hT10 l6];refine zaa ?_;try simp only[rnA,Nat.reduceEqDiff,Nat.reduceLT,Nat.reduceAdd,Nat.reduceLeDiff]
 refine EvL.zkg (S':=⟨112,[(1,(fzE false (eI .i64) p1)),(3,(.ptr 0 0)),(5,(.ptr 1 0)),(6,(.ptr 2 0)),(8,(.sl 3 0 1 (Int.toNat (p1.length:Int)) (some (Int.toNat (p1.length:Int))) (Int.toNat (p1.length:Int)))),(12,(.ptr 5 0)),(16,(.ptr 7 0)),(78,(fzE false (eI .i64) p0.factor.cards)),(79,(fzE true (eI .i64) l6))],[.cells [(fzE false (eI .i64) p0.factor.vars),(fzE false (eI .i64) p0.factor.cards),(fzE false (eI .i64) p0.factor.w),(fzE false (eI .i64) p0.steps)],.cells [(.clo 101 [] [])],.cells [zaJ,zaJ,zaJ],.els 1 (l3.map ((eI .i64).c true)),.els 1 (y14.map ((eI .i64).c true)),.cells [(.sl 4 0 1 (Int.toNat v9) (some (Int.toNat v9)) (Int.toNat v9))],.gone,.cells [(dB true)]]⟩) (zbA.m0 [.k,.k,.k,.k,.k,.k,.f,.k] rfl (msq (msq (msq (msq (msq (msq (msq (msq (mf rfl (zqQ (e:=(eI .i64)) (t:=true) rfl rfl (.inl rfl) (el6).symm (el6).symm (fun k h=>by cases h; exact qam _) (fun h=>by cases h<;>rfl)) trivial))))))))) ⟨MB.cs ⟨qc8,qc8,qc8,qc8,qc8⟩,⟨MB.cs ⟨⟨qc8,qc8⟩,qc8⟩,⟨MB.cs ⟨qc8,qc8,qc8,qc8⟩,⟨MB.es (eI .i64) true l3,⟨MB.es (eI .i64) true y14,⟨MB.cs ⟨rfl,qc8⟩,⟨rfl,⟨MB.cs ⟨qc8,qc8⟩,qc8⟩⟩⟩⟩⟩⟩⟩⟩) (zaa ?_);obtain⟨r29,g30,h⟩:=bind_some h;try simp only[rnA]
 refine EvL.fnS (zd7 g30) rfl rfl (.cons (zbG _ _ (fun h=>by cases h<;>contradiction)) (.cons (zbG _ _ (fun h=>by cases h<;>contradiction)) .nil)) ⟨(zaF _ _),(zaF _ _),qc8⟩ ⟨qc8,⟨⟨rfl,zaF _ _,qc8⟩,⟨rfl,zaF _ _,qc8⟩,qc8⟩⟩ ?_;try simp only[rnA,Nat.reduceLT]
 obtain⟨o13,j13,h⟩:=bind_some h;obtain⟨T13,hT13⟩:=mkT fun a:(Bool×(List Int))=>⟨112,[(1,(fzE false (eI .i64) p1)),(6,(.ptr 2 0)),(8,(.sl 3 0 1 (Int.toNat (p1.length:Int)) (some (Int.toNat (p1.length:Int))) (Int.toNat (p1.length:Int)))),(12,(.ptr 5 0)),(16,(.ptr 7 0))],[.gone,.gone,.cells [zaJ,zaJ,zaJ],.els 1 (l3.map ((eI .i64).c true)),.els 1 (a.2.map ((eI .i64).c true)),.cells [(.sl 4 0 1 (Int.toNat v9) (some (Int.toNat v9)) (Int.toNat v9))],.gone,.cells [(dB a.1)]]⟩
 refine EvL.jn T13 (fun a=>a=o13∧a.2.length=(Int.toNat v9)) ?_ ?_
 ·refine zaa ?_;try simp only[rnA]
  obtain⟨u31,g32,j13⟩:=bind_some j13;obtain⟨o14,j14,j13⟩:=bind_some j13;obtain⟨T14,hT14⟩:∃ T:(List Int)→List LB,T=(fun a=>[.cells [(fzE false (eI .i64) p0.factor.vars),(fzE false (eI .i64) p0.factor.cards),(fzE false (eI .i64) p0.factor.w),(fzE false (eI .i64) p0.steps)],.cells [(.clo 101 [] [])],.cells [zaJ,zaJ,zaJ],.els 1 (l3.map ((eI .i64).c true)),.els 1 (a.map ((eI .i64).c true)),.cells [(.sl 4 0 1 (Int.toNat v9) (some (Int.toNat v9)) (Int.toNat v9))],.gone,.cells [(dB true)]]):=⟨_,rfl⟩;obtain⟨TX14,hTX14⟩:∃ T:(List Int)→List LB,T=(fun a=>[.cells [(fzE false (eI .i64) p0.factor.vars),(fzE false (eI .i64) p0.factor.cards),(fzE false (eI .i64) p0.factor.w),(fzE false (eI .i64) p0.steps)],.cells [(.clo 101 [] [])],.cells [zaJ,zaJ,zaJ],.els 1 (l3.map ((eI .i64).c true)),.els 1 (a.map ((eI .i64).c true)),.cells [(.sl 4 0 1 (Int.toNat v9) (some (Int.toNat v9)) (Int.toNat v9))],.gone,.cells [(dB false)]]):=⟨_,rfl⟩;refine EvL.zkg (S':=⟨112,[(1,(fzE false (eI .i64) p1)),(3,(.ptr 0 0)),(5,(.ptr 1 0)),(6,(.ptr 2 0)),(8,(.sl 3 0 1 (Int.toNat (p1.length:Int)) (some (Int.toNat (p1.length:Int))) (Int.toNat (p1.length:Int)))),(12,(.ptr 5 0)),(16,(.ptr 7 0)),(80,(.clo 135 [] [(.fptr false ((eL (eI .i64)).c false r29.1)),(.fptr false ((eL (eI .i64)).c false r29.2))]))],T14 y14⟩) (by rw[hT14]; exact wm0 [.k,.k,.k,.k,.k,.k,.k,.k] ⟨MB.cs ⟨qc8,qc8,qc8,qc8,qc8⟩,⟨MB.cs ⟨⟨qc8,qc8⟩,qc8⟩,⟨MB.cs ⟨qc8,qc8,qc8,qc8⟩,⟨MB.es (eI .i64) true l3,⟨MB.es (eI .i64) true y14,⟨MB.cs ⟨rfl,qc8⟩,⟨MB.same trivial,⟨MB.cs ⟨qc8,qc8⟩,qc8⟩⟩⟩⟩⟩⟩⟩⟩) ?_;refine EvL.zkk (n0:=8) (zdP g32) rfl (bm:=.block 5 (.seq (.reg true true [⟨some 84,.load none (.s 12),none⟩,⟨some 85,.mov (.s 18),none⟩,⟨some 86,.fld 0 (.s 5),none⟩,⟨some 87,.load none (.s 86),none⟩,⟨some 88,.load none (.s 12),none⟩,⟨some 89,.mov (.s 18),none⟩,⟨some 90,.idxS 1 (.s 88) (.s 89),none⟩,⟨some 91,.load none (.s 90),none⟩,⟨some 92,.fld 0 (.s 3),none⟩,⟨some 93,.fld 2 (.s 92),none⟩,⟨some 94,.load none (.s 93),none⟩,⟨some 95,.mov (.s 17),none⟩,⟨some 96,.idxS 1 (.s 94) (.s 95),none⟩,⟨some 97,.load none (.s 96),none⟩,⟨some 98,.zbS (.s 87) [(.s 91),(.s 97)],none⟩,⟨some 83,.mov (.s 98),none⟩,⟨some 99,.ext (.s 83) 0,none⟩,⟨some 100,.ext (.s 83) 1,none⟩,⟨some 101,.idxS 1 (.s 84) (.s 85),none⟩,⟨none,.store 1 (.s 101) (.s 99),none⟩,⟨none,.store 1 (.s 16) (.s 100),none⟩]) (.block 6 (.seq (.reg false false [⟨some 103,.load none (.s 16),none⟩,⟨some 104,.un .not (.s 103),none⟩,⟨some 102,.mov (.s 104),none⟩]) (.cond (.s 102) (.exit 4) (.skip)))))) rfl T14 (fun i a=>zau p0 v9 (u31.drop i) a=some o14∧a.length=(Int.toNat v9)) (fun x L1=>match x with | .normal=>∃ a,o14=.go a∧a.length=(Int.toNat v9)∧L1=T14 a | .exit id=>∃ a,o14=.brk a∧a.length=(Int.toNat v9)∧id=4∧L1=TX14 a | .ret=>L1.length=8∧zfh (8+1) L1∧(zhh [.cell 6 (some 3),.tmp 7] ((.tup [(.agg [(fzE false (eI .i64) r.1.vars),(fzE false (eI .i64) r.1.cards),(fzE false (eI .i64) r.1.w)]),(dI r.2)]))) .ret ⟨112,[(1,(fzE false (eI .i64) p1)),(3,(.ptr 0 0)),(5,(.ptr 1 0)),(6,(.ptr 2 0)),(8,(.sl 3 0 1 (Int.toNat (p1.length:Int)) (some (Int.toNat (p1.length:Int))) (Int.toNat (p1.length:Int)))),(12,(.ptr 5 0)),(16,(.ptr 7 0)),(80,(.clo 135 [] [(.fptr false ((eL (eI .i64)).c false r29.1)),(.fptr false ((eL (eI .i64)).c false r29.2))]))],L1 ++ [.lost]⟩| _=>False) y14 ?_ (qaC _) ?_ ?_ ?_ (fun d L1 hx=>hx.elim) ?_ ?_ ?_ ?_ ?_ ?_
  ·intro a; rw[hT14]; rfl
  ·exact⟨qc8,(qaf rfl),(qaf rfl),(qaf rfl),(qaf rfl),(qaf rfl),(qaf rfl),⟨qc8,⟨qc8,qc8,qc8⟩⟩,qc8⟩
  ·intro a; rw[hT14]; exact⟨⟨qc8,qc8,qc8,qc8,qc8⟩,⟨⟨qc8,qc8⟩,qc8⟩,⟨qc8,qc8,qc8,qc8⟩,(zdX (eI .i64) _ _ _),(zdX (eI .i64) _ _ _),⟨(qaf rfl),qc8⟩,qc8,⟨qc8,qc8⟩,qc8⟩
  ·intro x L1 hx;cases x with
   | normal=>obtain⟨a,_,_,rfl⟩:=hx; exact⟨by rw[hT14]; rfl,by rw[hT14]; exact⟨⟨qc8,qc8,qc8,qc8,qc8⟩,⟨⟨qc8,qc8⟩,qc8⟩,⟨qc8,qc8,qc8,qc8⟩,(zdX (eI .i64) _ _ _),(zdX (eI .i64) _ _ _),⟨(qaf rfl),qc8⟩,qc8,⟨qc8,qc8⟩,qc8⟩⟩
   | ret=>exact⟨hx.1,hx.2.1⟩
   | exit id=>obtain⟨a,_,_,_,rfl⟩:=hx; exact⟨by rw[hTX14]; rfl,by rw[hTX14]; exact⟨⟨qc8,qc8,qc8,qc8,qc8⟩,⟨⟨qc8,qc8⟩,qc8⟩,⟨qc8,qc8,qc8,qc8⟩,(zdX (eI .i64) _ _ _),(zdX (eI .i64) _ _ _),⟨(qaf rfl),qc8⟩,qc8,⟨qc8,qc8⟩,qc8⟩⟩
   | panic d=>exact hx.elim
  ·exact⟨j14,zbs g15⟩
  ·rintro i l4 y33 args G lpF hy ⟨hi14,el4⟩ ⟨rfl,rfl⟩ hkin;rw[zhv hy]at hi14;simp only[zau]at hi14;refine⟨_,_,rfl,rfl,?_⟩;rw[congrFun hT14 l4];refine zaa ?_;obtain⟨x34,g35,hi14⟩:=bind_some hi14;obtain⟨x36,g37,hi14⟩:=bind_some hi14;obtain⟨r38,g39,hi14⟩:=bind_some hi14;try simp only[rnA,Nat.reduceEqDiff,Nat.reduceLT,Nat.reduceAdd,el4,zbk g35,(show y33.2.1<(((Int.toNat v9):Nat):Int)from el4 ▸ zbj g35),zaS g35 ((eI .i64).c true),zal (n:=1) (e:=(eI .i64)) rfl g37]
   refine EvL.fnv rfl rfl (zju g39) rfl (.cons (.lit _) (.cons (.lit _) .nil)) ?_;obtain⟨y40,g41,hi14⟩:=bind_some hi14;try simp only[rnA,Nat.reduceEqDiff,Nat.reduceLT,Nat.reduceLeDiff,el4,zbk g35,(show y33.2.1<(((Int.toNat v9):Nat):Int)from el4 ▸ zbj g35),zaS g35 ((eI .i64).c true),(show(l4.map ((eI .i64).c true)).set y33.2.1.toNat [(dI r38.1)]=y40.map ((eI .i64).c true)from zby g41 ((eI .i64).c true))]
   cases c42:r38.2
   ·rw[c42,cond_false]at hi14;try simp only[rnA,Nat.reduceEqDiff]
    replace hi14:=qac hi14; subst hi14;exact⟨TX14 y40,by rw[hTX14]; rfl,by rw[hTX14]; exact zbA.mK [.k,.k,.k,.k,.k,.k,.k,.k,.k,.k] rfl rfl qc8 ⟨MB.cs ⟨qc8,qc8,qc8,qc8,qc8⟩,⟨MB.cs ⟨⟨qc8,qc8⟩,qc8⟩,⟨MB.cs ⟨qc8,qc8,qc8,qc8⟩,⟨MB.es (eI .i64) true l3,⟨MB.es (eI .i64) true y40,⟨MB.cs ⟨rfl,qc8⟩,⟨MB.same trivial,⟨MB.cs ⟨qc8,qc8⟩,⟨.same (hkin _ (by decide)),⟨MB.same (ze1 _ _ _ _),qc8⟩⟩⟩⟩⟩⟩⟩⟩⟩⟩,y40,rfl,(zbe g41).trans el4,rfl⟩
   rw[c42,cond_true]at hi14;try simp only[rnA]
   exact⟨T14 y40,by rw[hT14]; rfl,by rw[hT14]; exact zbA.mK [.k,.k,.k,.k,.k,.k,.k,.k,.k,.k] rfl rfl qc8 ⟨MB.cs ⟨qc8,qc8,qc8,qc8,qc8⟩,⟨MB.cs ⟨⟨qc8,qc8⟩,qc8⟩,⟨MB.cs ⟨qc8,qc8,qc8,qc8⟩,⟨MB.es (eI .i64) true l3,⟨MB.es (eI .i64) true y40,⟨MB.cs ⟨rfl,qc8⟩,⟨MB.same trivial,⟨MB.cs ⟨qc8,qc8⟩,⟨.same (hkin _ (by decide)),⟨MB.same (ze1 _ _ _ _),qc8⟩⟩⟩⟩⟩⟩⟩⟩⟩⟩,y40,⟨hi14,(zbe g41).trans el4⟩,rfl⟩
  ·rintro l4 ⟨hi14,el4⟩;rw[qbs]at hi14;simp only[zau]at hi14;exact⟨l4,(qac hi14).symm,el4,rfl⟩
  ·rintro _ ⟨l4,oeq,el4,rfl⟩;have oeq2:=oeq.symm;subst oeq2;dsimp only at j13;rw[congrFun hT14 l4];refine zaa ?_;try simp only[rnA]
   replace j13:=qac j13; subst j13;exact⟨_,⟨rfl,el4⟩,by rw[hT13]; exact wm0 [.d,.d,.k,.k,.k,.k,.d,.k] ⟨rfl,⟨rfl,⟨MB.cs ⟨qc8,qc8,qc8,qc8⟩,⟨MB.es (eI .i64) true l3,⟨MB.es (eI .i64) true l4,⟨MB.cs ⟨rfl,qc8⟩,⟨rfl,⟨MB.cs ⟨qc8,qc8⟩,qc8⟩⟩⟩⟩⟩⟩⟩⟩⟩
  ·rintro id _ ⟨l4,oeq,el4,rfl,rfl⟩;rw[oeq]at j13;dsimp only at j13;rw[congrFun hTX14 l4];refine zaa ?_;try simp only[rnA]
   replace j13:=qac j13; subst j13;exact⟨_,⟨rfl,el4⟩,by rw[hT13]; exact wm0 [.d,.d,.k,.k,.k,.k,.d,.k] ⟨rfl,⟨rfl,⟨MB.cs ⟨qc8,qc8,qc8,qc8⟩,⟨MB.es (eI .i64) true l3,⟨MB.es (eI .i64) true l4,⟨MB.cs ⟨rfl,qc8⟩,⟨rfl,⟨MB.cs ⟨qc8,qc8⟩,qc8⟩⟩⟩⟩⟩⟩⟩⟩⟩
  intro L1 hx; exact hx.2.2
 rintro⟨b7_0,l4⟩ ⟨rfl,el4⟩;dsimp only at h;rw[congrFun hT13 (b7_0,l4)];refine zaa ?_;try simp only[rnA,Nat.reduceEqDiff,Nat.reduceLT]
 cases c43:b7_0
 ·rw[c43,cond_false]at h;try simp only[rnA,Nat.reduceEqDiff,Nat.reduceLT,Nat.reduceAdd,Nat.reduceLeDiff]
  replace h:=qac h; subst h;exact zhh.ret rfl (Snp.zfI (.cons (.zeD (.cons (zam (eI .i64)) (.cons (zam (eI .i64)) (.cons (zam (eI .i64)) .nil)))) (.cons (.lit _) .nil)))
 rw[c43,cond_true]at h;try simp only[rnA,Nat.reduceEqDiff,Nat.reduceLT,Nat.reduceAdd,Nat.reduceLeDiff]
 replace h:=qac h; subst h;exact zhh.ret rfl (Snp.zfI (.cons (.zeD (.cons (zaj _ _ (fun h=>nomatch h)) (.cons (zbz (e:=(eI .i64)) (t:=true) rfl (.inl rfl) (el3).symm (el3).symm (fun k h=>by cases h; exact qam _) (fun h=>nomatch h)) (.cons (zbz (e:=(eI .i64)) (t:=true) rfl (.inl rfl) (el4).symm (el4).symm (fun k h=>by cases h; exact qam _) (fun h=>nomatch h)) .nil)))) (.cons (.lit _) .nil)))
def zci(p0:S_api_Factor)(p1:Int):Option (S_api_Factor×Int):=
(zbW p0).bind fun r1=>
bif (r1.2 == 0)then(
(zaC r1.1 p1).bind fun r4=>
bif (decide (r4<0))then(
some ((S_api_Factor.mk [] [] []),4))
else(
(zdq 8 r1.1.factor.vars).bind fun y7=>
(zqN y7 r4 (w64 (r4+1))).bind fun y9=>
(zaY r1.1 y9).bind fun r11=>
some (r11.1,r11.2)))
else(
some ((S_api_Factor.mk [] [] []),r1.2))
def zei:C:=
 .seq (rg [oW 3 0,
 oW 5 2,
 ⟨some 6,.alloc [(.slice none 0 0),(.slice none 0 0),(.slice none 0 0)],none⟩,
 oK 7 0])
 (.seq (rg [oN 12 3 3,
 oU 13 89 12,
 oM 11 13,
 oX 14 11 0,
 oX 15 11 1,
 ⟨some 8,.alloc [(.slice none 0 0),(.slice none 0 0),(.slice none 0 0),(.slice none 0 0)],none⟩,
 oS 4 8 14,
 oM 9 15])
 (.seq (.seq (rg [oM 16 9,
 oD 17 .neq 16 0])
 (.cond (.s 17) (.seq (rg [⟨some 18,.build [(.slice none 0 0),(.slice none 0 0),(.slice none 0 0)] [],none⟩,
 oM 19 9,
 oS 3 6 18,
 oM 7 19])
 (.ret))
 (.skip)))
 (.seq (rg [oN 20 4 8,
 oM 21 1,
 oV 22 96 20 21,
 oM 10 22])
 (.seq (.seq (rg [oM 23 10,
 oD 24 .lss 23 0])
 (.cond (.s 24) (.seq (rg [⟨some 25,.build [(.slice none 0 0),(.slice none 0 0),(.slice none 0 0)] [],none⟩,
 oS 3 6 25,
 oK 7 4])
 (.ret))
 (.skip)))
 (.seq (.reg true false [oN 26 4 8,
 oF 27 0 8,
 oF 28 0 27,
 oL 29 28,
 oM 31 10,
 oM 32 10,
 oD 33 .add 32 1,
 oN 35 1 5,
 oU 30 49 29,
 ⟨none,.avo [(.s 8),(.s 5)] (.s 30),none⟩,
 ⟨some 34,.call 103 [(.s 30),(.s 31),(.s 33)],none⟩,
 ⟨some 36,.call 106 [(.s 26),(.s 34),(.s 35)],none⟩,
 oX 37 36 0,
 oX 38 36 1,
 oS 3 6 37,
 oM 7 38])
 (.ret))))))
theorem zfL:zkx mC 100=some (39,zei,[.cell 6 (some 3),.tmp 7],false):=zbY (by kernel_rfl)
theorem zgv{p0:S_api_Factor}{p1:Int}{r:(S_api_Factor×Int)}(h:zci p0 p1=some r):Lx.FnA mC 100 [(.agg [(fzE false (eI .i64) p0.vars),(fzE false (eI .i64) p0.cards),(fzE false (eI .i64) p0.w)]),(dI p1),(.agg [(.clo 101 [] [])])] (.tup [(.agg [(fzE false (eI .i64) r.1.vars),(fzE false (eI .i64) r.1.cards),(fzE false (eI .i64) r.1.w)]),(dI r.2)]):=by
 refine FnA.of zfL (zbN rfl) (qaf rfl) ?_;unfold zci at h;simp only[zei,zm6];refine zaa ?_;obtain⟨r1,g2,h⟩:=bind_some h;try simp only[rnA,Nat.reduceEqDiff,Nat.reduceLT,Nat.reduceAdd,Nat.reduceLeDiff,reduceCtorEq]
 refine EvL.fnS (zfA g2) rfl rfl (.cons (Mzs.agg (.cons (zbG _ _ (fun h=>by cases h<;>contradiction)) (.cons (zbG _ _ (fun h=>by cases h<;>contradiction)) (.cons (zbG _ _ (fun h=>by cases h<;>contradiction)) .nil)))) .nil) ⟨⟨(zaF _ _),(zaF _ _),(zaF _ _),qc8⟩,qc8⟩ ⟨⟨(zaF _ _),(zaF _ _),(zaF _ _),(zaF _ _),qc8⟩,qc8,qc8⟩ ?_;try simp only[rnA,Nat.reduceEqDiff,Nat.reduceLT,Nat.reduceAdd,Nat.reduceLeDiff,reduceCtorEq]
 cases c3:(r1.2 == 0)
 ·rw[c3,cond_false]at h;try simp only[rnA,Nat.reduceEqDiff,Nat.reduceLT,Nat.reduceAdd,Nat.reduceLeDiff,reduceCtorEq]
  replace h:=qac h; subst h;exact zhh.ret rfl (Snp.zfI (.cons (.zeD (.cons (zam (eI .i64)) (.cons (zam (eI .i64)) (.cons (zam (eI .i64)) .nil)))) (.cons (.lit _) .nil)))
 rw[c3,cond_true]at h;obtain⟨r4,g5,h⟩:=bind_some h;try simp only[rnA,Nat.reduceEqDiff,Nat.reduceLT,Nat.reduceAdd,Nat.reduceLeDiff,reduceCtorEq]
 refine EvL.fn (zbg g5) rfl rfl (.cons (.zeD (.cons (zaj _ _ (fun h=>nomatch h)) (.cons (zaj _ _ (fun h=>nomatch h)) (.cons (zaj _ _ (fun h=>nomatch h)) (.cons (zaj _ _ (fun h=>nomatch h)) .nil))))) (.cons (.lit _) .nil)) ?_;try simp only[rnA,Nat.reduceEqDiff,Nat.reduceLT,reduceCtorEq]
 cases c6:(decide (r4<0))
 ·rw[c6,cond_false]at h;obtain⟨y7,g8,h⟩:=bind_some h;try simp only[rnA,Nat.reduceEqDiff,Nat.reduceLT,Nat.reduceAdd,Nat.reduceLeDiff,reduceCtorEq]
  refine EvL.clone (t:=false) (zs:=r1.1.factor.vars) g8 rfl rfl ?_;obtain⟨y9,g10,h⟩:=bind_some h;try simp only[rnA,Nat.reduceEqDiff,Nat.reduceLT,Nat.reduceAdd,Nat.reduceBEq,reduceCtorEq]
  refine EvL.delete (zs:=y7) (t:=true) g10 rfl rfl rfl rfl rfl rfl ?_;refine EvL.zkg (S':=⟨39,[(6,(.ptr 2 0)),(26,(.agg [(fzE false (eI .i64) r1.1.factor.vars),(fzE false (eI .i64) r1.1.factor.cards),(fzE false (eI .i64) r1.1.factor.w),(fzE false (eI .i64) r1.1.steps)])),(34,(fzE true (eI .i64) y9)),(35,(.agg [(.clo 101 [] [])]))],[.gone,.gone,.cells [zaJ,zaJ,zaJ]]⟩) (zbA.m0 [.d,.d,.k,.d,.f] rfl (msq (ms rfl ⟨qc8,qc8,qc8,qc8,qc8⟩ (mf rfl (zmQ (xs:=y7) (ys:=y9) (t:=true) (znf g10) rfl rfl rfl (fun _=>rfl)) (ms rfl ⟨⟨qc8,qc8⟩,qc8⟩ trivial)))) ⟨rfl,⟨rfl,⟨MB.cs ⟨qc8,qc8,qc8,qc8⟩,qc8⟩⟩⟩) (zaa ?_);obtain⟨r11,g12,h⟩:=bind_some h;try simp only[rnA]
  refine EvL.fnS (zd1 g12) rfl rfl (.cons (Mzs.agg (.cons (zbG _ _ (fun h=>by cases h<;>contradiction)) (.cons (zbG _ _ (fun h=>by cases h<;>contradiction)) (.cons (zbG _ _ (fun h=>by cases h<;>contradiction)) (.cons (zbG _ _ (fun h=>by cases h<;>contradiction)) .nil))))) (.cons (zbG _ _ (fun h=>by cases h<;>contradiction)) (.cons (Mzs.agg (.cons zqV .nil)) .nil))) ⟨⟨(zaF _ _),(zaF _ _),(zaF _ _),(zaF _ _),qc8⟩,(zaF _ _),⟨⟨qc8,qc8⟩,qc8⟩,qc8⟩ ⟨⟨(zaF _ _),(zaF _ _),(zaF _ _),qc8⟩,qc8,qc8⟩ ?_;try simp only[rnA,Nat.reduceEqDiff,Nat.reduceLT,Nat.reduceAdd,Nat.reduceLeDiff]
  replace h:=qac h; subst h;exact zhh.ret rfl (Snp.zfI (.cons (.zeD (.cons (zaj _ _ (fun h=>nomatch h)) (.cons (zaj _ _ (fun h=>nomatch h)) (.cons (zaj _ _ (fun h=>nomatch h)) .nil)))) (.cons (.lit _) .nil)))
 rw[c6,cond_true]at h;try simp only[rnA,Nat.reduceEqDiff,Nat.reduceLT,Nat.reduceAdd,Nat.reduceLeDiff,reduceCtorEq]
 replace h:=qac h; subst h;exact zhh.ret rfl (Snp.zfI (.cons (.zeD (.cons (zam (eI .i64)) (.cons (zam (eI .i64)) (.cons (zam (eI .i64)) .nil)))) (.cons (.lit _) .nil)))
end Go.Dc
