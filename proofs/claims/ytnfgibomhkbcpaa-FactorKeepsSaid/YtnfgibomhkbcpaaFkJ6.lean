/-
 What l03_FactorProducts computes. Conditions: none.
-/
import Derived.Test.YtnfgibomhkbcpaaFkJ4
import Derived.Test.YtnfgibomhkbcpaaFkJ5
set_option linter.unusedSimpArgs false
set_option linter.unusedVariables false
set_option maxRecDepth 100000
set_option maxHeartbeats 4000000
namespace Go.Dc
open Go Go.Mx Go.Lx Go.Proofs
def zee(p0:S_api_Factor)(p1:(List Int)):Option (S_api_Factor×Bool):=
(zei p0 p1 false).bind fun r1=>
some (r1.1,r1.2)
theorem zlg{p0:S_api_Factor}{p1:(List Int)}{r:(S_api_Factor×Bool)}(h:zee p0 p1=some r):Lx.FnA mC 43 [(.agg [(fzE false (eI .i64) p0.vars),(fzE false (eI .i64) p0.cards),(fzE false (eI .i64) p0.w)]),(fzE false (eI .i64) p1)] (.tup [(.agg [(fzE false (eI .i64) r.1.vars),(fzE false (eI .i64) r.1.cards),(fzE false (eI .i64) r.1.w)]),(dB r.2)]):=by
 refine zsv (by conv=>lhs; cbv) ?_;unfold zee at h;refine zaa ?_;obtain⟨r1,g2,h⟩:=bind_some h;try simp only[rnA,Nat.reduceEqDiff,reduceIte,Nat.reduceLT,Nat.reduceAdd,Nat.reduceLeDiff,Nat.reduceMul,Nat.reduceSub,Int.reduceLE,Int.reduceLT,Int.reduceBEq,Nat.reduceBEq,reduceCtorEq,zad,zb9]
 refine EvL.fnS (zly g2) rfl rfl (.cons (Mzs.agg (.cons (zae _ _ (fun h=>by cases h<;>contradiction)) (.cons (zae _ _ (fun h=>by cases h<;>contradiction)) (.cons (zae _ _ (fun h=>by cases h<;>contradiction)) .nil)))) (.cons (zae _ _ (fun h=>by cases h<;>contradiction)) (.cons (.lit _) .nil))) ⟨⟨(zac _ _),(zac _ _),(zac _ _),qca⟩,(zac _ _),qca,qca⟩ ⟨⟨(zac _ _),(zac _ _),(zac _ _),qca⟩,qca,qca⟩ ?_;try simp only[rnA,Nat.reduceEqDiff,reduceIte,Nat.reduceLT,Nat.reduceAdd,Nat.reduceLeDiff,Nat.reduceMul,Nat.reduceSub,Int.reduceLE,Int.reduceLT,Int.reduceBEq,Nat.reduceBEq,reduceCtorEq,zad]
 replace h:=qaa h; subst h;exact zeQ.ret rfl (Snp.zdn (.cons (.za5 (.cons (zab _ _ (fun h=>nomatch h)) (.cons (zab _ _ (fun h=>nomatch h)) (.cons (zab _ _ (fun h=>nomatch h)) .nil)))) (.cons (.lit _) .nil)))
def zbM(p0:S_api_Factor):Nat→Int→Int→Option (Out Int (Int×Bool))
 | 0,_,_=>none
 | n+1,v4,v5=>(
bif (decide (v5<(p0.w.length:Int)))then(
(za4 p0.w v5).bind fun x2=>
bif (decide (4611686018427387903<(w64 (v4+x2))))then(
some (.ret (0,false)))
else(
zbM p0 n (w64 (v4+x2)) (w64 (v5+1))))
else(
some (.go v4)))
def zdC(p0:S_api_Factor):Option (Int×Bool):=
((zbM p0 ((p0.w.length:Int) - 0+2:Int).toNat 0 0:Option (Out Int (Int×Bool)))).bind fun o=>match o with
| .go v4=>(
some (v4,true))
| .ret r=>some r
theorem zkm{p0:S_api_Factor}{r:(Int×Bool)}(h:zdC p0=some r):Lx.Fn mC 41 [(.agg [(fzE false (eI .i64) p0.vars),(fzE false (eI .i64) p0.cards),(fzE false (eI .i64) p0.w)])] (.tup [(dI r.1),(dB r.2)]):=by
 refine fnO (by conv=>lhs; cbv) ?_;unfold zdC at h;refine zaa ?_;try simp only[rnA,Nat.reduceLT]
 obtain⟨o1,j1,h⟩:=bind_some h;obtain⟨T1,hT1⟩:=mkT fun a:Int=>⟨23,[(4,(dI a))],[]⟩
 refine EvL.jn T1 (fun a=>o1=.go a) ?_ ?_
 ·refine zaa ?_;simp only[rnA];obtain⟨T2,hT2⟩:=mkT fun a:(Int×Int)=>⟨23,[(1,(.ptr 0 0)),(4,(dI a.1)),(5,(dI a.2))],[.cells [(fzE false (eI .i64) p0.vars),(fzE false (eI .i64) p0.cards),(fzE false (eI .i64) p0.w)]]⟩
  refine EvL.rounds (α:=(Int×Int)) T2 (fun n a=>zbM p0 n a.1 a.2=some o1) ((p0.w.length:Int) - 0+2:Int).toNat (0,0) (by rw[hT2]; exact wm0 [.k] ⟨MB.cs ⟨qca,qca,qca,qca⟩,qca⟩) j1 (fun _ h=>nomatch (show(none:Option (Out Int (Int×Bool)))=some o1 from h)) ?_;rintro n ⟨v4,v5⟩ j1;simp only[zbM]at j1;rw[congrFun hT2 (v4,v5)];refine zaa ?_;try simp only[rnA,Nat.reduceEqDiff,Nat.reduceLT,zav]
  cases c1:(decide (v5<(p0.w.length:Int)))
  ·rw[c1,cond_false]at j1;try simp only[rnA]
   replace j1:=qaa j1; subst j1;exact lfj hT1 rfl (wm0 [] (by exact trivial))
  rw[c1,cond_true]at j1;obtain⟨x2,g3,j1⟩:=bind_some j1;try simp only[rnA,Nat.reduceEqDiff,Nat.reduceLT,zam (n:=1) (e:=(eI .i64)) rfl g3]
  cases c4:(decide (4611686018427387903<(w64 (v4+x2))))
  ·rw[c4,cond_false]at j1;try simp only[rnA,Nat.reduceEqDiff,Nat.reduceLT]
   exact⟨((w64 (v4+x2)),(w64 (v5+1))),j1,by rw[hT2]; exact wm0 [.k] ⟨MB.cs ⟨qca,qca,qca,qca⟩,qca⟩⟩
  rw[c4,cond_true]at j1;try simp only[rnA,Nat.reduceLT]
  replace j1:=qaa j1; subst j1;dsimp only at h;replace h:=qaa h; subst h;exact zbK.ret rfl (Snp.zdn (.cons (.lit _) (.cons (.lit _) .nil)))
 rintro v4 rfl;dsimp only at h;rw[congrFun hT1 v4];refine zaa ?_;try simp only[rnA,Nat.reduceEqDiff,Nat.reduceLT]
 replace h:=qaa h; subst h;exact zbK.ret rfl (Snp.zdn (.cons (.lit _) (.cons (.lit _) .nil)))
end Go.Dc
