/-
 What index_count computes. Conditions: none.
-/
import Derived.Test.YtnfgibomhkbcpaaNtJ2
import Derived.Test.YtnfgibomhkbcpaaNtLi
set_option linter.unusedSimpArgs false
set_option linter.unusedVariables false
set_option maxRecDepth 100000
set_option maxHeartbeats 4000000
namespace Go.Dc
open Go Go.Mx Go.Lx Go.Proofs
def zbd(p0:(List Int)):Nat→Int→Int→Option (Int×Bool)
 | 0,_,_=>none
 | n+1,v2,v11=>(
bif (decide (v11<(p0.length:Int)))then(
(zaZ p0 v11).bind fun x3=>
((bif (decide (x3<1))then(
some true)
else(
bif (decide (8<x3))then(
some true)
else(
some (decide (4096<(w64 (v2 * x3)))))):Option Bool)).bind fun v15=>
bif v15 then(
some (0,false))
else(
zbd p0 n (w64 (v2 * x3)) (w64 (v11+1))))
else(
some (v2,true)))
def zbY(p0:(List Int)):Option (Int×Bool):=
bif (decide (12<(p0.length:Int)))then(
some (0,false))
else(
((zbd p0 ((p0.length:Int) - 0+2:Int).toNat 1 0:Option ((Int×Bool)))).bind fun o=>match o with
|(v2,v3)=>(
some (v2,v3)))
theorem zfW{p0:(List Int)}{r:(Int×Bool)}(h:zbY p0=some r):Lx.Fn mC 134 [(fzE false (eI .i64) p0)] (.tup [(dI r.1),(dB r.2)]):=by
 refine fnO (by conv=>lhs; cbv) ?_;unfold zbY at h;refine zaa ?_;try simp only[rnA,Nat.reduceLT]
 refine EvL.scope (zaa ?_);try simp only[rnA,Nat.reduceEqDiff,Nat.reduceLT,reduceCtorEq,zat]
 cases c1:(decide (12<(p0.length:Int)))
 ·rw[c1,cond_false]at h;try simp only[rnA,Nat.reduceEqDiff,Nat.reduceLT,reduceCtorEq,zat]
  obtain⟨o12,j12,h⟩:=bind_some h;obtain⟨T12,hT12⟩:=mkT fun a:(Int×Bool)=>⟨30,[(2,(dI a.1)),(3,(dB a.2))],[]⟩
  refine EvL.jn T12 (fun a=>a=o12) ?_ ?_
  ·refine zaa ?_;simp only[rnA];obtain⟨T15,hT15⟩:=mkT fun a:(Int×Int)=>⟨30,[(2,(dI a.1)),(3,(dB true)),(9,(fzE false (eI .i64) p0)),(10,(dI (p0.length:Int))),(11,(dI a.2))],[]⟩
   refine EvL.rounds (α:=(Int×Int)) T15 (fun n a=>zbd p0 n a.1 a.2=some o12) ((p0.length:Int) - 0+2:Int).toNat (1,0) (by rw[hT15]; exact wm0 [] (by exact trivial)) j12 (fun _ h=>nomatch (show(none:Option (Int×Bool))=some o12 from h)) ?_;rintro n ⟨v2,v11⟩ j12;simp only[zbd]at j12;rw[congrFun hT15 (v2,v11)];refine zaa ?_;try simp only[rnA,Nat.reduceEqDiff,Nat.reduceLT]
   cases c2:(decide (v11<(p0.length:Int)))
   ·rw[c2,cond_false]at j12;try simp only[rnA]
    replace j12:=qac j12; subst j12;exact lfj hT12 rfl (wm0 [] (by exact trivial))
   rw[c2,cond_true]at j12;obtain⟨x3,g4,j12⟩:=bind_some j12;try simp only[rnA,Nat.reduceEqDiff,Nat.reduceLT,zao (n:=1) (e:=(eI .i64)) rfl g4]
   obtain⟨o16,j16,j12⟩:=bind_some j12;obtain⟨T16,hT16⟩:=mkT fun a:Bool=>⟨30,[(2,(dI v2)),(3,(dB true)),(5,(dI x3)),(9,(fzE false (eI .i64) p0)),(10,(dI (p0.length:Int))),(11,(dI v11)),(15,(dB a))],[]⟩
   refine EvL.jn T16 (fun a=>a=o16) ?_ ?_
   ·refine zaa ?_;try simp only[rnA,Nat.reduceEqDiff]
    cases c5:(decide (x3<1))
    ·rw[c5,cond_false]at j16;try simp only[rnA,Nat.reduceEqDiff,Nat.reduceLT]
     cases c6:(decide (8<x3))
     ·rw[c6,cond_false]at j16;try simp only[rnA,Nat.reduceEqDiff,Nat.reduceLT]
      replace j16:=qac j16; subst j16;exact lfj hT16 rfl (wm0 [] (by exact trivial))
     rw[c6,cond_true]at j16;try simp only[rnA]
     replace j16:=qac j16; subst j16;exact lfj hT16 rfl (wm0 [] (by exact trivial))
    rw[c5,cond_true]at j16;try simp only[rnA]
    replace j16:=qac j16; subst j16;exact lfj hT16 rfl (wm0 [] (by exact trivial))
   rintro v15 rfl;rw[congrFun hT16 v15];refine zaa ?_;try simp only[rnA,Nat.reduceEqDiff]
   cases c7:v15
   ·rw[c7,cond_false]at j12;try simp only[rnA,Nat.reduceEqDiff,Nat.reduceLT]
    exact⟨((w64 (v2 * x3)),(w64 (v11+1))),j12,by rw[hT15]; exact wm0 [] (by exact trivial)⟩
   rw[c7,cond_true]at j12;try simp only[rnA,Nat.reduceEqDiff,Nat.reduceLT,reduceCtorEq]
   replace j12:=qac j12; subst j12;exact lfj hT12 rfl (wm0 [] (by exact trivial))
  rintro⟨v2,v3⟩ rfl;dsimp only at h;rw[congrFun hT12 (v2,v3)];refine zaa ?_;try simp only[rnA,Nat.reduceEqDiff,Nat.reduceLT]
  replace h:=qac h; subst h;exact zcr.ret rfl (Snp.zeU (.cons (.lit _) (.cons (.lit _) .nil)))
 rw[c1,cond_true]at h;try simp only[rnA,Nat.reduceLT]
 replace h:=qac h; subst h;exact zcr.ret rfl (Snp.zeU (.cons (.lit _) (.cons (.lit _) .nil)))
def zbS(p0:(List Int)):Option (Int×Int):=
(zbY p0).bind fun r1=>
bif r1.2 then(
some (r1.1,0))
else(
some (0,20))
theorem zeF{p0:(List Int)}{r:(Int×Int)}(h:zbS p0=some r):Lx.Fn mC 92 [(fzE false (eI .i64) p0)] (.tup [(dI r.1),(dI r.2)]):=by
 refine fnO (by conv=>lhs; cbv) ?_;unfold zbS at h;refine zaa ?_;obtain⟨r1,g2,h⟩:=bind_some h;try simp only[rnA,Nat.reduceEqDiff,reduceIte,Nat.reduceLT,Nat.reduceAdd,Nat.reduceLeDiff,Nat.reduceMul,Nat.reduceSub,Int.reduceLE,Int.reduceLT,Int.reduceBEq,Nat.reduceBEq,reduceCtorEq]
 refine EvL.fn (zfW g2) rfl rfl (.cons (zah _ _ (fun h=>nomatch h)) .nil) ?_;try simp only[rnA,Nat.reduceEqDiff,reduceIte,Nat.reduceLT,Nat.reduceAdd,Nat.reduceLeDiff,Nat.reduceMul,Nat.reduceSub,Int.reduceLE,Int.reduceLT,Int.reduceBEq,Nat.reduceBEq,reduceCtorEq]
 cases c3:r1.2
 ·rw[c3,cond_false]at h;try simp only[rnA,Nat.reduceEqDiff,reduceIte,Nat.reduceLT,Nat.reduceAdd,Nat.reduceLeDiff,Nat.reduceMul,Nat.reduceSub,Int.reduceLE,Int.reduceLT,Int.reduceBEq,Nat.reduceBEq,reduceCtorEq,c3]
  replace h:=qac h; subst h;exact zcr.ret rfl (Snp.zeU (.cons (.lit _) (.cons (.lit _) .nil)))
 rw[c3,cond_true]at h;try simp only[rnA,Nat.reduceEqDiff,reduceIte,Nat.reduceLT,Nat.reduceAdd,Nat.reduceLeDiff,Nat.reduceMul,Nat.reduceSub,Int.reduceLE,Int.reduceLT,Int.reduceBEq,Nat.reduceBEq,reduceCtorEq,c3]
 replace h:=qac h; subst h;exact zcr.ret rfl (Snp.zeU (.cons (.lit _) (.cons (.lit _) .nil)))
def zb7(p0:S_api_Factor):Nat→Int→Int→Option (Out Unit (S_factor_table×Int))
 | 0,_,_=>none
 | n+1,v6,v42=>(
bif (decide (v42<(p0.vars.length:Int)))then(
(zaZ p0.vars v42).bind fun x7=>
((bif (decide (x7≤v6))then(
some true)
else(
some (decide (63<x7))):Option Bool)).bind fun v52=>
bif v52 then(
some (.ret ((S_factor_table.mk (S_api_Factor.mk [] [] []) []),30)))
else(
zb7 p0 n x7 (w64 (v42+1))))
else(
some (.go ())))
def zb6(p0:S_api_Factor):Nat→Int→Option (Out Unit (S_factor_table×Int))
 | 0,_=>none
 | n+1,v59=>(
bif (decide (v59<(p0.w.length:Int)))then(
(zaZ p0.w v59).bind fun x12=>
((bif (decide (x12<0))then(
some true)
else(
some (decide (4611686018427387903<x12))):Option Bool)).bind fun v68=>
bif v68 then(
some (.ret ((S_factor_table.mk (S_api_Factor.mk [] [] []) []),30)))
else(
zb6 p0 n (w64 (v59+1))))
else(
some (.go ())))
def zbH(p0:S_api_Factor):Nat→Int→Int→(List Int)→Option (List Int)
 | 0,_,_,_=>none
 | n+1,v12,v13,l2=>(
bif (decide (0≤v13))then(
(zaZ l2 v13).bind fun x19=>
(zfu l2 v13 v12).bind fun y21=>
(zaZ p0.zad v13).bind fun x23=>
zbH p0 n (w64 (v12 * x23)) (w64 (v13 - 1)) y21)
else(
some l2))
def zb0(p0:S_api_Factor):Option (S_factor_table×Int):=
(zbS p0.zad).bind fun r1=>
((bif (r1.2 == 0)then(
bif ((p0.vars.length:Int)==(p0.zad.length:Int))then(
some (!((p0.w.length:Int)== r1.1)))
else(
some true))
else(
some true):Option Bool)).bind fun v37=>
bif v37 then(
some ((S_factor_table.mk (S_api_Factor.mk [] [] []) []),30))
else(
((zb7 p0 ((p0.vars.length:Int) - 0+2:Int).toNat (-1) 0:Option (Out Unit (S_factor_table×Int)))).bind fun o=>match o with
| .go _=>(
((zb6 p0 ((p0.w.length:Int) - 0+2:Int).toNat 0:Option (Out Unit (S_factor_table×Int)))).bind fun o=>match o with
| .go _=>(
(zet 8 (p0.zad.length:Int) 0).bind fun y16=>
((zbH p0 ((w64 ((((Int.toNat (p0.zad.length:Int)):Nat):Int) - 1)) - 0+2:Int).toNat 1 (w64 ((((Int.toNat (p0.zad.length:Int)):Nat):Int) - 1)) y16:Option (List Int))).bind fun l2=>
some ((S_factor_table.mk p0 l2),0))
| .ret r=>some r)
| .ret r=>some r)
theorem zfT{p0:S_api_Factor}{r:(S_factor_table×Int)}(h:zb0 p0=some r):Lx.FnA mC 89 [(.agg [(fzE false (eI .i64) p0.vars),(fzE false (eI .i64) p0.zad),(fzE false (eI .i64) p0.w)])] (.tup [(.agg [(fzE false (eI .i64) r.1.factor.vars),(fzE false (eI .i64) r.1.factor.zad),(fzE false (eI .i64) r.1.factor.w),(fzE false (eI .i64) r.1.steps)]),(dI r.2)]):=by
 refine zBX (by conv=>lhs; cbv) ?_;unfold zb0 at h;refine zaa ?_;obtain⟨r1,g2,h⟩:=bind_some h;try simp only[rnA,Nat.reduceEqDiff,Nat.reduceLT,reduceCtorEq]
 refine EvL.fn (zeF g2) rfl rfl (.cons (zah _ _ (fun h=>nomatch h)) .nil) ?_;try simp only[rnA,Nat.reduceEqDiff,Nat.reduceLT,reduceCtorEq]
 obtain⟨o1,j1,h⟩:=bind_some h;obtain⟨T1,hT1⟩:=mkT fun a:Bool=>⟨96,[(1,(.ptr 0 0)),(2,(.ptr 1 0)),(37,(dB a))],[.cells [(fzE false (eI .i64) p0.vars),(fzE false (eI .i64) p0.zad),(fzE false (eI .i64) p0.w)],.cells [zaU,zaU,zaU,zaU]]⟩
 refine EvL.jn T1 (fun a=>a=o1) ?_ ?_
 ·refine zaa ?_;try simp only[rnA,Nat.reduceEqDiff,Nat.reduceLT,reduceCtorEq]
  cases c3:(r1.2 == 0)
  ·rw[c3,cond_false]at j1;try simp only[rnA,Nat.reduceEqDiff,Nat.reduceLT,reduceCtorEq]
   replace j1:=qac j1; subst j1;exact lfj hT1 rfl (wm0 [.k,.k] ⟨MB.cs ⟨qdb,qdb,qdb,qdb⟩,⟨MB.cs ⟨qdb,qdb,qdb,qdb,qdb⟩,qdb⟩⟩)
  rw[c3,cond_true]at j1;try simp only[rnA,Nat.reduceEqDiff,Nat.reduceLT,reduceCtorEq,zat]
  cases c4:((p0.vars.length:Int)==(p0.zad.length:Int))
  ·rw[c4,cond_false]at j1;try simp only[rnA,Nat.reduceEqDiff,Nat.reduceLT,reduceCtorEq]
   replace j1:=qac j1; subst j1;exact lfj hT1 rfl (wm0 [.k,.k] ⟨MB.cs ⟨qdb,qdb,qdb,qdb⟩,⟨MB.cs ⟨qdb,qdb,qdb,qdb,qdb⟩,qdb⟩⟩)
  rw[c4,cond_true]at j1;try simp only[rnA,Nat.reduceEqDiff,Nat.reduceLT,reduceCtorEq,zat]
  replace j1:=qac j1; subst j1;exact lfj hT1 rfl (wm0 [.k,.k] ⟨MB.cs ⟨qdb,qdb,qdb,qdb⟩,⟨MB.cs ⟨qdb,qdb,qdb,qdb,qdb⟩,qdb⟩⟩)
 rintro v37 rfl;rw[congrFun hT1 v37];refine zaa ?_;try simp only[rnA,Nat.reduceEqDiff]
 cases c5:v37
 ·rw[c5,cond_false]at h;try simp only[rnA,Nat.reduceEqDiff,Nat.reduceLT,zat]
  obtain⟨o5,j5,h⟩:=bind_some h;obtain⟨T5,hT5⟩:=mkT fun a:Unit=>⟨96,[(1,(.ptr 0 0)),(2,(.ptr 1 0))],[.cells [(fzE false (eI .i64) p0.vars),(fzE false (eI .i64) p0.zad),(fzE false (eI .i64) p0.w)],.cells [zaU,zaU,zaU,zaU]]⟩
  refine EvL.jn T5 (fun a=>o5=.go a) ?_ ?_
  ·refine zaa ?_;simp only[rnA];obtain⟨T8,hT8⟩:=mkT fun a:(Int×Int)=>⟨96,[(1,(.ptr 0 0)),(2,(.ptr 1 0)),(6,(dI a.1)),(40,(fzE false (eI .i64) p0.vars)),(41,(dI (p0.vars.length:Int))),(42,(dI a.2))],[.cells [(fzE false (eI .i64) p0.vars),(fzE false (eI .i64) p0.zad),(fzE false (eI .i64) p0.w)],.cells [zaU,zaU,zaU,zaU]]⟩
   refine EvL.rounds (α:=(Int×Int)) T8 (fun n a=>zb7 p0 n a.1 a.2=some o5) ((p0.vars.length:Int) - 0+2:Int).toNat ((-1),0) (by rw[hT8]; exact wm0 [.k,.k] ⟨MB.cs ⟨qdb,qdb,qdb,qdb⟩,⟨MB.cs ⟨qdb,qdb,qdb,qdb,qdb⟩,qdb⟩⟩) j5 (fun _ h=>nomatch (show(none:Option (Out Unit (S_factor_table×Int)))=some o5 from h)) ?_;rintro n ⟨v6,v42⟩ j5;simp only[zb7]at j5;rw[congrFun hT8 (v6,v42)];refine zaa ?_;try simp only[rnA,Nat.reduceEqDiff,Nat.reduceLT]
   cases c6:(decide (v42<(p0.vars.length:Int)))
   ·rw[c6,cond_false]at j5;try simp only[rnA]
    replace j5:=qac j5; subst j5;exact lfj hT5 rfl (wm0 [.k,.k] ⟨MB.cs ⟨qdb,qdb,qdb,qdb⟩,⟨MB.cs ⟨qdb,qdb,qdb,qdb,qdb⟩,qdb⟩⟩)
   rw[c6,cond_true]at j5;obtain⟨x7,g8,j5⟩:=bind_some j5;try simp only[rnA,Nat.reduceEqDiff,Nat.reduceLT,zao (n:=1) (e:=(eI .i64)) rfl g8]
   obtain⟨o9,j9,j5⟩:=bind_some j5;obtain⟨T9,hT9⟩:=mkT fun a:Bool=>⟨96,[(1,(.ptr 0 0)),(2,(.ptr 1 0)),(8,(dI x7)),(40,(fzE false (eI .i64) p0.vars)),(41,(dI (p0.vars.length:Int))),(42,(dI v42)),(52,(dB a))],[.cells [(fzE false (eI .i64) p0.vars),(fzE false (eI .i64) p0.zad),(fzE false (eI .i64) p0.w)],.cells [zaU,zaU,zaU,zaU]]⟩
   refine EvL.jn T9 (fun a=>a=o9) ?_ ?_
   ·refine zaa ?_;try simp only[rnA,Nat.reduceEqDiff,Nat.reduceLT]
    cases c9:(decide (x7≤v6))
    ·rw[c9,cond_false]at j9;try simp only[rnA,Nat.reduceEqDiff,Nat.reduceLT]
     replace j9:=qac j9; subst j9;exact lfj hT9 rfl (wm0 [.k,.k] ⟨MB.cs ⟨qdb,qdb,qdb,qdb⟩,⟨MB.cs ⟨qdb,qdb,qdb,qdb,qdb⟩,qdb⟩⟩)
    rw[c9,cond_true]at j9;try simp only[rnA,Nat.reduceEqDiff,Nat.reduceLT]
    replace j9:=qac j9; subst j9;exact lfj hT9 rfl (wm0 [.k,.k] ⟨MB.cs ⟨qdb,qdb,qdb,qdb⟩,⟨MB.cs ⟨qdb,qdb,qdb,qdb,qdb⟩,qdb⟩⟩)
   rintro v52 rfl;rw[congrFun hT9 v52];refine zaa ?_;try simp only[rnA,Nat.reduceEqDiff]
   cases c10:v52
   ·rw[c10,cond_false]at j5;try simp only[rnA,Nat.reduceEqDiff,Nat.reduceLT]
    exact⟨(x7,(w64 (v42+1))),j5,by rw[hT8]; exact wm0 [.k,.k] ⟨MB.cs ⟨qdb,qdb,qdb,qdb⟩,⟨MB.cs ⟨qdb,qdb,qdb,qdb,qdb⟩,qdb⟩⟩⟩
   rw[c10,cond_true]at j5;try simp only[rnA,Nat.reduceEqDiff,Nat.reduceLT,Nat.reduceAdd,Nat.reduceLeDiff]
   replace j5:=qac j5; subst j5;dsimp only at h;replace h:=qac h; subst h;exact zkd.ret rfl (Snp.zeU (.cons (.zd9 (.cons (zap (eI .i64)) (.cons (zap (eI .i64)) (.cons (zap (eI .i64)) (.cons (zap (eI .i64)) .nil))))) (.cons (.lit _) .nil)))
  rintro⟨⟩ rfl;dsimp only at h;rw[congrFun hT5 ()];refine zaa ?_;try simp only[rnA,Nat.reduceEqDiff,Nat.reduceLT,zat]
  obtain⟨o13,j13,h⟩:=bind_some h;obtain⟨T13,hT13⟩:=mkT fun a:Unit=>⟨96,[(1,(.ptr 0 0)),(2,(.ptr 1 0))],[.cells [(fzE false (eI .i64) p0.vars),(fzE false (eI .i64) p0.zad),(fzE false (eI .i64) p0.w)],.cells [zaU,zaU,zaU,zaU]]⟩
  refine EvL.jn T13 (fun a=>o13=.go a) ?_ ?_
  ·refine zaa ?_;simp only[rnA];obtain⟨T16,hT16⟩:=mkT fun a:Int=>⟨96,[(1,(.ptr 0 0)),(2,(.ptr 1 0)),(57,(fzE false (eI .i64) p0.w)),(58,(dI (p0.w.length:Int))),(59,(dI a))],[.cells [(fzE false (eI .i64) p0.vars),(fzE false (eI .i64) p0.zad),(fzE false (eI .i64) p0.w)],.cells [zaU,zaU,zaU,zaU]]⟩
   refine EvL.rounds (α:=Int) T16 (fun n a=>zb6 p0 n a=some o13) ((p0.w.length:Int) - 0+2:Int).toNat 0 (by rw[hT16]; exact wm0 [.k,.k] ⟨MB.cs ⟨qdb,qdb,qdb,qdb⟩,⟨MB.cs ⟨qdb,qdb,qdb,qdb,qdb⟩,qdb⟩⟩) j13 (fun _ h=>nomatch (show(none:Option (Out Unit (S_factor_table×Int)))=some o13 from h)) ?_;rintro n v59 j13;simp only[zb6]at j13;rw[congrFun hT16 v59];refine zaa ?_;try simp only[rnA,Nat.reduceEqDiff,Nat.reduceLT]
   cases c11:(decide (v59<(p0.w.length:Int)))
   ·rw[c11,cond_false]at j13;try simp only[rnA]
    replace j13:=qac j13; subst j13;exact lfj hT13 rfl (wm0 [.k,.k] ⟨MB.cs ⟨qdb,qdb,qdb,qdb⟩,⟨MB.cs ⟨qdb,qdb,qdb,qdb,qdb⟩,qdb⟩⟩)
   rw[c11,cond_true]at j13;obtain⟨x12,g13,j13⟩:=bind_some j13;try simp only[rnA,Nat.reduceEqDiff,Nat.reduceLT,zao (n:=1) (e:=(eI .i64)) rfl g13]
   obtain⟨o17,j17,j13⟩:=bind_some j13;obtain⟨T17,hT17⟩:=mkT fun a:Bool=>⟨96,[(1,(.ptr 0 0)),(2,(.ptr 1 0)),(57,(fzE false (eI .i64) p0.w)),(58,(dI (p0.w.length:Int))),(59,(dI v59)),(68,(dB a))],[.cells [(fzE false (eI .i64) p0.vars),(fzE false (eI .i64) p0.zad),(fzE false (eI .i64) p0.w)],.cells [zaU,zaU,zaU,zaU]]⟩
   refine EvL.jn T17 (fun a=>a=o17) ?_ ?_
   ·refine zaa ?_;try simp only[rnA,Nat.reduceEqDiff,Nat.reduceLT]
    cases c14:(decide (x12<0))
    ·rw[c14,cond_false]at j17;try simp only[rnA,Nat.reduceEqDiff,Nat.reduceLT]
     replace j17:=qac j17; subst j17;exact lfj hT17 rfl (wm0 [.k,.k] ⟨MB.cs ⟨qdb,qdb,qdb,qdb⟩,⟨MB.cs ⟨qdb,qdb,qdb,qdb,qdb⟩,qdb⟩⟩)
    rw[c14,cond_true]at j17;try simp only[rnA,Nat.reduceEqDiff,Nat.reduceLT]
    replace j17:=qac j17; subst j17;exact lfj hT17 rfl (wm0 [.k,.k] ⟨MB.cs ⟨qdb,qdb,qdb,qdb⟩,⟨MB.cs ⟨qdb,qdb,qdb,qdb,qdb⟩,qdb⟩⟩)
   rintro v68 rfl;rw[congrFun hT17 v68];refine zaa ?_;try simp only[rnA,Nat.reduceEqDiff]
   cases c15:v68
   ·rw[c15,cond_false]at j13;try simp only[rnA,Nat.reduceEqDiff,Nat.reduceLT]
    exact⟨(w64 (v59+1)),j13,by rw[hT16]; exact wm0 [.k,.k] ⟨MB.cs ⟨qdb,qdb,qdb,qdb⟩,⟨MB.cs ⟨qdb,qdb,qdb,qdb,qdb⟩,qdb⟩⟩⟩
   rw[c15,cond_true]at j13;try simp only[rnA,Nat.reduceEqDiff,Nat.reduceLT,Nat.reduceAdd,Nat.reduceLeDiff]
   replace j13:=qac j13; subst j13;dsimp only at h;replace h:=qac h; subst h;exact zkd.ret rfl (Snp.zeU (.cons (.zd9 (.cons (zap (eI .i64)) (.cons (zap (eI .i64)) (.cons (zap (eI .i64)) (.cons (zap (eI .i64)) .nil))))) (.cons (.lit _) .nil)))
  rintro⟨⟩ rfl;dsimp only at h;rw[congrFun hT13 ()];refine zaa ?_;obtain⟨y16,g17,h⟩:=bind_some h;try simp only[rnA,Nat.reduceEqDiff,Nat.reduceLT,Nat.reduceAdd,zat,(zaC g17).1.1,(zaC g17).1.2,qbU,(show List.replicate (Int.toNat (p0.zad.length:Int)) [(dI 0)]=y16.map ((eI .i64).c true)from zb2 g17 ((eI .i64).c true)),zby g17]
  obtain⟨o18,j18,h⟩:=bind_some h;obtain⟨T18,hT18⟩:=mkT fun a:(List Int)=>⟨96,[(1,(.ptr 0 0)),(2,(.ptr 1 0)),(11,(.sl 2 0 1 (Int.toNat (p0.zad.length:Int)) (some (Int.toNat (p0.zad.length:Int))) (Int.toNat (p0.zad.length:Int))))],[.cells [(fzE false (eI .i64) p0.vars),(fzE false (eI .i64) p0.zad),(fzE false (eI .i64) p0.w)],.cells [zaU,zaU,zaU,zaU],.els 1 (a.map ((eI .i64).c true))]⟩
  refine EvL.jn T18 (fun a=>a=o18∧a.length=(Int.toNat (p0.zad.length:Int))) ?_ ?_
  ·refine zaa ?_;simp only[rnA];obtain⟨T19,hT19⟩:=mkT fun a:(Int×Int×(List Int))=>⟨96,[(1,(.ptr 0 0)),(2,(.ptr 1 0)),(11,(.sl 2 0 1 (Int.toNat (p0.zad.length:Int)) (some (Int.toNat (p0.zad.length:Int))) (Int.toNat (p0.zad.length:Int)))),(12,(dI a.1)),(13,(dI a.2.1))],[.cells [(fzE false (eI .i64) p0.vars),(fzE false (eI .i64) p0.zad),(fzE false (eI .i64) p0.w)],.cells [zaU,zaU,zaU,zaU],.els 1 (a.2.2.map ((eI .i64).c true))]⟩
   refine EvL.rounds (α:=(Int×Int×(List Int))) T19 (fun n a=>zbH p0 n a.1 a.2.1 a.2.2=some o18∧a.2.2.length=(Int.toNat (p0.zad.length:Int))) ((w64 ((((Int.toNat (p0.zad.length:Int)):Nat):Int) - 1)) - 0+2:Int).toNat (1,(w64 ((((Int.toNat (p0.zad.length:Int)):Nat):Int) - 1)),y16) (by rw[hT19]; exact wm0 [.k,.k,.k] ⟨MB.cs ⟨qdb,qdb,qdb,qdb⟩,⟨MB.cs ⟨qdb,qdb,qdb,qdb,qdb⟩,⟨MB.es (eI .i64) true y16,qdb⟩⟩⟩) ⟨j18,zby g17⟩ (fun _ h=>nomatch (show(none:Option (List Int))=some o18 from h.1)) ?_;rintro n ⟨v12,v13,l2⟩ ⟨j18,el2⟩;simp only[zbH]at j18;rw[congrFun hT19 (v12,v13,l2)];refine zaa ?_;try simp only[rnA,Nat.reduceEqDiff,Nat.reduceLT]
   cases c18:(decide (0≤v13))
   ·rw[c18,cond_false]at j18;try simp only[rnA]
    replace j18:=qac j18; subst j18;exact⟨_,⟨rfl,el2⟩,by rw[hT18]; exact wm0 [.k,.k,.k] ⟨MB.cs ⟨qdb,qdb,qdb,qdb⟩,⟨MB.cs ⟨qdb,qdb,qdb,qdb,qdb⟩,⟨MB.es (eI .i64) true l2,qdb⟩⟩⟩⟩
   rw[c18,cond_true]at j18;obtain⟨x19,g20,j18⟩:=bind_some j18;obtain⟨y21,g22,j18⟩:=bind_some j18;obtain⟨x23,g24,j18⟩:=bind_some j18;try simp only[rnA,Nat.reduceEqDiff,Nat.reduceLT,Nat.reduceLeDiff,el2,zbl g20,(show v13<(((Int.toNat (p0.zad.length:Int)):Nat):Int)from el2 ▸ zbm g20),zaR g20 ((eI .i64).c true),(show(l2.map ((eI .i64).c true)).set v13.toNat [(dI v12)]=y21.map ((eI .i64).c true)from zbs g22 ((eI .i64).c true)),zao (n:=1) (e:=(eI .i64)) rfl g24]
   exact⟨((w64 (v12 * x23)),(w64 (v13 - 1)),y21),⟨j18,(zbg g22).trans el2⟩,by rw[hT19]; exact wm0 [.k,.k,.k] ⟨MB.cs ⟨qdb,qdb,qdb,qdb⟩,⟨MB.cs ⟨qdb,qdb,qdb,qdb,qdb⟩,⟨MB.es (eI .i64) true y21,qdb⟩⟩⟩⟩
  rintro l2 ⟨rfl,el2⟩;rw[congrFun hT18 l2];refine zaa ?_;try simp only[rnA,Nat.reduceEqDiff,Nat.reduceLT,Nat.reduceAdd,Nat.reduceLeDiff]
  replace h:=qac h; subst h;exact zkd.ret rfl (Snp.zeU (.cons (.zd9 (.cons (zah _ _ (fun h=>nomatch h)) (.cons (zah _ _ (fun h=>nomatch h)) (.cons (zah _ _ (fun h=>nomatch h)) (.cons (zbD (e:=(eI .i64)) (t:=true) rfl (.inl rfl) (el2).symm (el2).symm (fun k h=>by cases h; exact qal _) (fun h=>nomatch h)) .nil))))) (.cons (.lit _) .nil)))
 rw[c5,cond_true]at h;try simp only[rnA,Nat.reduceEqDiff,Nat.reduceLT,Nat.reduceAdd,Nat.reduceLeDiff]
 replace h:=qac h; subst h;exact zkd.ret rfl (Snp.zeU (.cons (.zd9 (.cons (zap (eI .i64)) (.cons (zap (eI .i64)) (.cons (zap (eI .i64)) (.cons (zap (eI .i64)) .nil))))) (.cons (.lit _) .nil)))
def zjz(zad steps:List Int):Nat→List Int→Int→Option (List Int×Int×Int)
 | 0,vals,a=>some (vals,a,-1)
 | k+1,vals,a=>(zaZ vals (k:Int)).bind fun v=>(zaZ zad (k:Int)).bind fun c=>bif v == w64 (c - 1)then(zaZ steps (k:Int)).bind fun st=>(zfu vals (k:Int) 0).bind fun vals'=>zjz zad steps k vals' (w64 (a - w64 (v * st)))else some (vals,a,(k:Int))
def zxS(zad steps:List Int):Nat→List Int→Int→Int→Option (List (Int×Int×List Int))
 | 0,_,_,_=>none
 | n+1,vals,i,a=>(zjz zad steps zad.length vals a).bind fun r=>bif decide (r.2.2<0)then some [(i,a,vals)]else
   (zaZ r.1 r.2.2).bind fun v=>(zfu r.1 r.2.2 (w64 (v+1))).bind fun vals'=>(zaZ steps r.2.2).bind fun st=>(zxS zad steps n vals' (w64 (i+1)) (w64 (r.2.1+st))).map fun l=>(i,a,vals):: l
def zxM(zad steps:List Int):Option (List (Int×Int×List Int)):=(zd3 zad).bind fun _=>(zet 8 (zad.length:Int) 0).bind fun z=>zxS zad steps ((zad.foldl (· * ·) 1).toNat) z 0 0
theorem zlO{α β:Type}{o:Option α}{f:α→β}{b:β}(h:o.map f=some b):∃ a,o=some a∧b=f a:=by
 cases o with
 | none=>cases h
 | some a=>cases h; exact⟨a,rfl,rfl⟩
theorem zwL{L:List LB}{n:Nat}(h:L.length=n)(x:LB):(L ++ [x])[n]? = some x:=by subst h; simp
theorem zw3{L:List LB}{n:Nat}(h:L.length=n)(x y:LB):(L ++ [x]).set n y=L ++ [y]:=by subst h; simp
def zva:C:=
 (.seq (.seq (.scope (.reg true false [oM 19 7,
 oD 20 .geq 19 0,
 oM 21 20,
 oMg 22 4 21 true,
 oMg 23 7 21 true,
 ⟨some 24,.idxS 1 (.s 22) (.s 23),some (21,true)⟩,
 oLg 25 24 21 true,
 oLg 26 1 21 true,
 oMg 27 7 21 true,
 ⟨some 28,.idxS 1 (.s 26) (.s 27),some (21,true)⟩,
 oLg 29 28 21 true,
 oDg 30 .sub 29 1 21 true,
 ⟨some 31,.bin .eql (.s 25) (.s 30),some (21,true)⟩,
 ⟨some 32,.pick (.s 21) (.s 31) (.c (.bool false)),none⟩]))
 (.cond (.s 32) (.skip)
 (.exit 2)))
 (.block 3 (.seq (.reg true false [oM 33 6,
 oM 34 4,
 oM 35 7,
 oI 36 1 34 35,
 oL 37 36,
 oL 38 2,
 oM 39 7,
 oI 40 1 38 39,
 oL 41 40,
 oB 42 .mul 37 41,
 oB 43 .sub 33 42,
 oM 6 43])
 (.seq (rg [oM 44 4,
 oM 45 7,
 oI 46 1 44 45,
 ⟨none,.store 1 (.s 46) (.c (.int .i64 0)),none⟩])
 (rg [oM 47 7,
 oD 48 .sub 47 1,
 oM 7 48])))))
def zo9:C:=.block 1 (.seq (.seq (.reg false false [⟨some 11,.mov (.s 0),none⟩,
 ⟨some 12,.mov (.s 5),none⟩,
 ⟨some 13,.mov (.s 6),none⟩,
 ⟨some 14,.callv (.s 11) [(.s 12),(.s 13)],none⟩,
 ⟨some 15,.un .not (.s 14),none⟩])
 (.cond (.s 15) (.ret)
 (.skip)))
 (.seq (.reg false false [⟨some 16,.load none (.s 1),none⟩,
 ⟨some 17,.len (.s 16),none⟩,
 ⟨some 18,.bin .sub (.s 17) (.c (.int .i64 1)),none⟩,
 ⟨some 7,.mov (.s 18),none⟩])
 (.seq (.scope (.block 2 (.loop zva)))
 (.seq (.seq (.reg false false [⟨some 49,.mov (.s 7),none⟩,
 ⟨some 50,.bin .lss (.s 49) (.c (.int .i64 0)),none⟩])
 (.cond (.s 50) (.ret)
 (.skip)))
 (.seq (.reg false false [⟨some 51,.mov (.s 4),none⟩,
 ⟨some 52,.mov (.s 7),none⟩,
 ⟨some 53,.idxS 1 (.s 51) (.s 52),none⟩,
 ⟨some 54,.load none (.s 53),none⟩,
 ⟨some 55,.bin .add (.s 54) (.c (.int .i64 1)),none⟩,
 ⟨some 56,.idxS 1 (.s 51) (.s 52),none⟩,
 ⟨none,.store 1 (.s 56) (.s 55),none⟩])
 (.seq (.reg false false [⟨some 57,.mov (.s 6),none⟩,
 ⟨some 58,.load none (.s 2),none⟩,
 ⟨some 59,.mov (.s 7),none⟩,
 ⟨some 60,.idxS 1 (.s 58) (.s 59),none⟩,
 ⟨some 61,.load none (.s 60),none⟩,
 ⟨some 62,.bin .add (.s 57) (.s 61),none⟩,
 ⟨some 6,.mov (.s 62),none⟩])
 (.reg false false [⟨some 63,.mov (.s 5),none⟩,
 ⟨some 64,.bin .add (.s 63) (.c (.int .i64 1)),none⟩,
 ⟨some 5,.mov (.s 64),none⟩])))))))
def zyQ:C:=.seq (.reg false false [⟨some 8,.load none (.s 1),none⟩,
 ⟨some 9,.len (.s 8),none⟩,
 ⟨some 10,.mk 1 8 [(.int .i64 0)] (.s 9) (.s 9),none⟩,
 ⟨some 4,.mov (.s 10),none⟩,
 ⟨some 5,.mov (.c (.int .i64 0)),none⟩,
 ⟨some 6,.mov (.c (.int .i64 0)),none⟩])
 (.scope (.block 0 (.loop zo9)))
theorem zwU:ziU mC 135=some (65,zyQ,[],false):=zbu (by kernel_rfl)
theorem zd6{zad steps:List Int}{u:List (Int×Int×List Int)}(hu:zxM zad steps=some u):
  Gen mC 135 [] [.fptr false ((eL (eI .i64)).c false zad),.fptr false ((eL (eI .i64)).c false steps)] u (fun y n0 args G=>args=[dI y.1,dI y.2.1]∧G=[.els 1 (y.2.2.map ((eI .i64).c true))]):=by
 intro n0 β P Ps hβ hlen hround L hP;refine zdy.ofM zwU (zbo rfl) (qaf rfl) ?_;obtain⟨_,hsm,hu⟩:=bind_some hu;obtain⟨z,hz,hv⟩:=bind_some hu;have hL:=hlen _ _ hP;have hm:IntKind.i64.wrap ((zad.length:Int) - 1)=(zad.length:Int) - 1:=by
  have:=zgv hsm;exact wrap64 (by omega) (by omega)
 unfold zyQ;refine zaa ?_;simp only[rnA,Nat.reduceEqDiff,Nat.reduceLT,Nat.reduceAdd,reduceCtorEq,zat,(zaC hz).1.1,(zaC hz).1.2,qbU,qaH,(show List.replicate zad.length [(dI 0)]=z.map ((eI .i64).c true)from(zb2 hz ((eI .i64).c true)))];refine EvL.scope (zaa ?_);simp only[rnA];rw[hL];refine EvL.loop (α:=Nat×Nat×List Int×Int×Int×List LB) (fun a=>⟨65,[(0,.yld β),(1,.fptr false ((eL (eI .i64)).c false zad)),(2,.fptr false ((eL (eI .i64)).c false steps)),(4,.sl n0 0 1 zad.length (some zad.length) zad.length),(5,dI a.2.2.2.1),(6,dI a.2.2.2.2.1)],a.2.2.2.2.2 ++ [.els 1 (a.2.2.1.map ((eI .i64).c true))]⟩)
  (fun a=>P a.2.1 a.2.2.2.2.2∧zxS zad steps a.1 a.2.2.1 a.2.2.2.1 a.2.2.2.2.1=some (u.drop a.2.1)∧a.2.2.1.length=zad.length) (fun a=>a.1) ((zad.foldl (· * ·) 1).toNat,0,z,0,0,L) (by refine zbC.sub ?_; exact⟨rfl,rfl,rfl,rfl,rfl,rfl,qdb⟩) ⟨hP,hv,by rw[zby hz,qaH]⟩ ?_
 rintro⟨n,j,vals,i,at_,L'⟩ ⟨hPi,hvk,hvl⟩;simp only at hPi hvk hvl;cases n with
 | zero=>cases hvk
 | succ n=>
 unfold zxS at hvk;obtain⟨⟨vals1,at1,kk⟩,hc,hvk⟩:=bind_some hvk;simp only at hvk;have hul:∃ r,u.drop j=(i,at_,vals):: r:=by
  cases hk:decide (kk<0)with
  | true=>rw[hk,cond_true]at hvk; exact⟨[],(qac hvk).symm⟩
  | false=>
   rw[hk,cond_false]at hvk;obtain⟨v,_,hvk⟩:=bind_some hvk;obtain⟨vals2,_,hvk⟩:=bind_some hvk;obtain⟨st,_,hvk⟩:=bind_some hvk;obtain⟨l,_,hl⟩:=zlO hvk;exact⟨l,hl⟩
 obtain⟨r,hul⟩:=hul;have hj:j<u.length:=by
  refine Nat.lt_of_not_le fun hn=>?_
  rw[qa6 hn]at hul;cases hul
 have huj:u[j]? = some (i,at_,vals):=by
  rw[qat hj]at hul;rw[qad hj,(qcl hul).1]
 have hur:u.drop (j+1)=r:=by
  rw[qat hj]at hul;exact(qcl hul).2
 unfold zo9;refine zaa ?_;simp only[rnA,Nat.reduceEqDiff,Nat.reduceLT,reduceCtorEq];refine EvL.yield rfl rfl rfl (hround j (i,at_,vals) L' _ [.els 1 (vals.map ((eI .i64).c true))] huj hPi ⟨rfl,rfl⟩) ?_;rintro b L2 ⟨L1,rfl,hl1,hb⟩;cases b with
 | false=>
  simp only[rnA,Nat.reduceEqDiff,Nat.reduceLT,reduceCtorEq];exact⟨[],rfl,L1,_,rfl,hl1,.inr hb⟩
 | true=>
 have hga:=zwL hl1;have hsa:=zw3 hl1;simp only[rnA,Nat.reduceEqDiff,Nat.reduceLT,reduceCtorEq,zat,hm];refine EvL.jn (fun a:List Int×Int×Int=>⟨65,[(0,.yld β),(1,.fptr false ((eL (eI .i64)).c false zad)),(2,.fptr false ((eL (eI .i64)).c false steps)),(4,.sl n0 0 1 zad.length (some zad.length) zad.length),(5,dI i),(6,dI a.2.1),(7,dI a.2.2)],L1 ++ [.els 1 (a.1.map ((eI .i64).c true))]⟩) (fun a=>a=(vals1,at1,kk)∧a.1.length=zad.length) ?_ ?_
 ·refine zaa ?_;simp only[rnA];refine EvL.loop (α:=Nat×List Int×Int) (fun a=>⟨65,[(0,.yld β),(1,.fptr false ((eL (eI .i64)).c false zad)),(2,.fptr false ((eL (eI .i64)).c false steps)),(4,.sl n0 0 1 zad.length (some zad.length) zad.length),(5,dI i),(6,dI a.2.2),(7,dI ((a.1:Int) - 1))],L1 ++ [.els 1 (a.2.1.map ((eI .i64).c true))]⟩)
   (fun a=>zjz zad steps a.1 a.2.1 a.2.2=some (vals1,at1,kk)∧a.2.1.length=zad.length∧a.1≤zad.length) (fun a=>a.1) (zad.length,vals,at_) (by refine zbC.sub ?_; exact⟨rfl,rfl,rfl,rfl,rfl,rfl,rfl,qdb⟩) ⟨hc,hvl,qal _⟩ ?_
  rintro⟨f,vs,a⟩ ⟨hf,hvs,hfl⟩;simp only at hf hvs hfl;simp only[zva,zjR];refine zaa ?_;simp only[rnA];cases f with
  | zero=>
   cases hf;refine EvL.scope (zaa ?_);have hk:((0:Nat):Int) - 1 = -1:=rfl;simp only[rnA,Nat.reduceEqDiff,Nat.reduceLT,Int.reduceLE,reduceCtorEq,hk];exact⟨_,⟨rfl,hvs⟩,zbC.sub ⟨rfl,rfl,rfl,rfl,rfl,rfl,rfl,qdb⟩⟩
  | succ f=>
   have hk:((f+1:Nat):Int) - 1=(f:Int):=by omega
   have hk0:(0:Int)≤(f:Int):=by omega
   unfold zjz at hf;obtain⟨v,q1,hf⟩:=bind_some hf;obtain⟨c,q2,hf⟩:=bind_some hf;refine EvL.scope (zaa ?_);cases hb:(v == w64 (c - 1))with
   | false=>
    rw[hb,cond_false]at hf;cases hf;simp only[rnA,Nat.reduceEqDiff,Nat.reduceLT,reduceCtorEq,hk,hk0,hga,hvs,(show(f:Int)<((zad.length:Nat):Int)from hvs ▸ zbm q1),zaR q1 ((eI .i64).c true),zao (n:=1) (e:=eI .i64) rfl q2,hb];exact⟨_,⟨rfl,hvs⟩,zbC.sub ⟨rfl,rfl,rfl,rfl,rfl,rfl,rfl,qdb⟩⟩
   | true=>
    rw[hb,cond_true]at hf;obtain⟨st,q3,hf⟩:=bind_some hf;obtain⟨vs',q4,hf⟩:=bind_some hf;have hw:IntKind.i64.wrap ((f:Int) - 1)=(f:Int) - 1:=by
     have:=zgv hsm;exact wrap64 (by omega) (by omega)
    simp only[rnA,Nat.reduceEqDiff,Nat.reduceLT,Nat.reduceLeDiff,reduceCtorEq,hk,hk0,hga,hsa,hvs,(show(f:Int)<((zad.length:Nat):Int)from hvs ▸ zbm q1),zaR q1 ((eI .i64).c true),zao (n:=1) (e:=eI .i64) rfl q2,zao (n:=1) (e:=eI .i64) rfl q3,hb,(show(vs.map ((eI .i64).c true)).set (f:Int).toNat [dI 0]=vs'.map ((eI .i64).c true)from zbs q4 ((eI .i64).c true)),hw];exact⟨(f,vs',w64 (a - w64 (v * st))),⟨hf,by rw[zbg q4]; exact hvs,by omega⟩,qbR f,zbC.sub ⟨rfl,rfl,rfl,rfl,rfl,rfl,rfl,qdb⟩⟩
 rintro a ⟨rfl,hvs⟩;simp only at hvs;refine zaa ?_;cases hk:decide (kk<0)with
 | true=>
  rw[hk,cond_true]at hvk;simp only[rnA,Nat.reduceEqDiff,Nat.reduceLT,reduceCtorEq,hk];have h1:u.length=j+1:=by
   have h2:=qac hvk;have h3:u.drop (j+1)=[]:=by
    rw[hur];rw[← h2]at hul;exact(qcl hul).2.symm
   have h4:=qc4.1 h3;omega
  exact⟨[],rfl,L1,_,rfl,hl1,.inl (by rw[h1]; exact hb)⟩
 | false=>
  rw[hk,cond_false]at hvk;obtain⟨v,q1,hvk⟩:=bind_some hvk;obtain⟨vals2,q2,hvk⟩:=bind_some hvk;obtain⟨st,q3,hvk⟩:=bind_some hvk;obtain⟨l,q4,hl⟩:=zlO hvk;simp only[rnA,Nat.reduceEqDiff,Nat.reduceLT,Nat.reduceLeDiff,reduceCtorEq,hk,hga,hsa,hvs,zbl q1,(show kk<((zad.length:Nat):Int)from hvs ▸ zbm q1),zaR q1 ((eI .i64).c true),(show(vals1.map ((eI .i64).c true)).set kk.toNat [dI (w64 (v+1))]=vals2.map ((eI .i64).c true)from zbs q2 ((eI .i64).c true)),zao (n:=1) (e:=eI .i64) rfl q3];refine⟨(n,j+1,vals2,w64 (i+1),w64 (at1+st),L1),⟨hb,?_,by rw[zbg q2]; exact hvs⟩,qbR n,zbC.sub ⟨rfl,rfl,rfl,rfl,rfl,rfl,qdb⟩⟩;simp only;rw[q4,hur];rw[hul]at hl;rw[(qcl hl).2]
def zaQ(p0:(List Int))(p1:Int):Nat→Int→Option (Out Unit Int)
 | 0,_=>none
 | n+1,v8=>(
bif (decide (v8<(p0.length:Int)))then(
(zaZ p0 v8).bind fun x2=>
bif (p1 == x2)then(
some (.ret v8))
else(
zaQ p0 p1 n (w64 (v8+1))))
else(
some (.go ())))
def za8(p0:(List Int))(p1:Int):Option Int:=
((zaQ p0 p1 ((p0.length:Int) - 0+2:Int).toNat 0:Option (Out Unit Int))).bind fun o=>match o with
| .go _=>(
some (-1))
| .ret r=>some r
theorem zeE{p0:(List Int)}{p1:Int}{r:Int}(h:za8 p0 p1=some r):Lx.Fn mC 136 [(fzE false (eI .i64) p0),(dI p1)] (dI r):=by
 refine fnO (by conv=>lhs; cbv) ?_;unfold za8 at h;refine zaa ?_;try simp only[rnA,Nat.reduceEqDiff,Nat.reduceLT,Nat.reduceAdd,reduceCtorEq,zat]
 obtain⟨o1,j1,h⟩:=bind_some h;obtain⟨T1,hT1⟩:=mkT fun a:Unit=>⟨19,[],[]⟩
 refine EvL.jn T1 (fun a=>o1=.go a) ?_ ?_
 ·refine zaa ?_;simp only[rnA];obtain⟨T2,hT2⟩:=mkT fun a:Int=>⟨19,[(0,(fzE false (eI .i64) p0)),(1,(dI p1)),(7,(dI (p0.length:Int))),(8,(dI a))],[]⟩
  refine EvL.rounds (α:=Int) T2 (fun n a=>zaQ p0 p1 n a=some o1) ((p0.length:Int) - 0+2:Int).toNat 0 (by rw[hT2]; exact wm0 [] (by exact trivial)) j1 (fun _ h=>nomatch (show(none:Option (Out Unit Int))=some o1 from h)) ?_;rintro n v8 j1;simp only[zaQ]at j1;rw[congrFun hT2 v8];refine zaa ?_;try simp only[rnA,Nat.reduceEqDiff,Nat.reduceLT,reduceCtorEq]
  cases c1:(decide (v8<(p0.length:Int)))
  ·rw[c1,cond_false]at j1;try simp only[rnA]
   replace j1:=qac j1; subst j1;exact lfj hT1 rfl (wm0 [] (by exact trivial))
  rw[c1,cond_true]at j1;obtain⟨x2,g3,j1⟩:=bind_some j1;try simp only[rnA,Nat.reduceEqDiff,Nat.reduceLT,reduceCtorEq,zao (n:=1) (e:=(eI .i64)) rfl g3]
  cases c4:(p1 == x2)
  ·rw[c4,cond_false]at j1;try simp only[rnA,Nat.reduceEqDiff,Nat.reduceLT,reduceCtorEq]
   exact⟨(w64 (v8+1)),j1,by rw[hT2]; exact wm0 [] (by exact trivial)⟩
  rw[c4,cond_true]at j1;try simp only[rnA,Nat.reduceEqDiff,Nat.reduceLT,reduceCtorEq]
  replace j1:=qac j1; subst j1;dsimp only at h;replace h:=qac h; subst h;exact zcr.ret rfl (.lit _)
 rintro⟨⟩ rfl;dsimp only at h;rw[congrFun hT1 ()];refine zaa ?_;try simp only[rnA,Nat.reduceLT]
 replace h:=qac h; subst h;exact zcr.ret rfl (.lit _)
def zaH(p0:S_factor_table)(p1:Int):Option Int:=
(za8 p0.factor.vars p1).bind fun r1=>
some r1
theorem zbG{p0:S_factor_table}{p1:Int}{r:Int}(h:zaH p0 p1=some r):Lx.Fn mC 96 [(.agg [(fzE false (eI .i64) p0.factor.vars),(fzE false (eI .i64) p0.factor.zad),(fzE false (eI .i64) p0.factor.w),(fzE false (eI .i64) p0.steps)]),(dI p1)] (dI r):=by
 refine fnO (by conv=>lhs; cbv) ?_;unfold zaH at h;refine zaa ?_;obtain⟨r1,g2,h⟩:=bind_some h;try simp only[rnA,Nat.reduceEqDiff,reduceIte,Nat.reduceLT,Nat.reduceAdd,Nat.reduceLeDiff,Nat.reduceMul,Nat.reduceSub,Int.reduceLE,Int.reduceLT,Int.reduceBEq,Nat.reduceBEq,reduceCtorEq,zei,zfc]
 refine EvL.fn (zeE g2) rfl rfl (.cons (zah _ _ (fun h=>nomatch h)) (.cons (.lit _) .nil)) ?_;try simp only[rnA,Nat.reduceEqDiff,reduceIte,Nat.reduceLT,Nat.reduceAdd,Nat.reduceLeDiff,Nat.reduceMul,Nat.reduceSub,Int.reduceLE,Int.reduceLT,Int.reduceBEq,Nat.reduceBEq,reduceCtorEq,zei]
 replace h:=qac h; subst h;exact zcr.ret rfl (.lit _)
end Go.Dc
