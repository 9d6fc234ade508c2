/-
 What net.rows hands back: a closure over its node. Conditions: none.
-/
import Derived.Test.YtbjogdohfhdaiaaEkQt
import Derived.Test.YtbjogdohfhdaiaaEkDcP
import Derived.Test.YtbjogdohfhdaiaaEkDt
import Derived.Test.YtbjogdohfhdaiaaEkLi
set_option linter.unusedSimpArgs false
set_option linter.unusedVariables false
set_option maxRecDepth 100000
set_option maxHeartbeats 4000000
namespace Go.Dc
open Go Go.Mx Go.Lx Go.Proofs
def zhj(x:S_api_Node):Option S_api_Node:=some x
def zjg:C:=
 .seq (rg [oW 1 0,
 ⟨some 2,.mov (.c .nilFunc),none⟩])
 (.seq (rg [⟨some 3,.clo 169 [] [(.s 1)],none⟩,
 oM 2 3])
 (.ret))
theorem zlM:zhM mC 150=some (4,zjg,[.tmp 2],false):=zbs (by kernel_rfl)
theorem zig{x r:S_api_Node}(h:zhj x=some r):Lx.FnA mC 150 [.agg (zac.c false x)] (.clo 169 [] [.fptr false (zac.c false r)]):=by
 cases h;refine FnA.of zlM (zaZ rfl) (qac rfl) ?_;simp only[zjg,zlX];refine zaa ?_;simp only[rnA,Nat.reduceEqDiff,reduceIte,Nat.reduceLT,Nat.reduceAdd,Nat.reduceLeDiff,Nat.reduceMul,Nat.reduceSub,Int.reduceLE,Int.reduceLT,Int.reduceBEq,Nat.reduceBEq,reduceCtorEq,zat];refine zfD.ret rfl (.clo rfl rfl (fun i d d' h1 h2=>by simp at h1) fun i d d' h1 h2=>?_);cases i with
 | zero=>
  simp only[qbB,qad]at h1 h2;subst h1;subst h2;exact .ptr rfl (qae _) fun k d d' h3 h4=>by
   rw[qay]at h3;exact(zac.snp (L:=_) (t:=false) (t':=false) x id).get k d d' h3 h4
 | succ i=>simp at h1
def zlS:C:=
 (.seq (rg [oB 9 .lss 8 7])
 (.seq (.cond (.s 9) (.skip)
 (.exit 0))
 (.seq (.block 1 (.seq (rg [oM 10 8,
 oI 11 1 6 8,
 oL 12 11,
 oM 3 10,
 oM 4 12])
 (.seq (rg [oM 13 0,
 oM 14 3,
 oM 15 4,
 ⟨some 16,.zdW (.s 13) [(.s 14),(.s 15)],none⟩,
 ⟨some 17,.un .not (.s 16),none⟩])
 (.cond (.s 17) (.ret)
 (.skip)))))
 (rg [oD 18 .add 8 1,
 oM 8 18]))))
def zqP:C:=
 .seq (rg [oF 5 2 1,
 oL 6 5,
 oE 7 6,
 oK 8 0])
 (.scope (.block 0 (.loop zlS)))
theorem zp1:zhM mC 169=some (19,zqP,[],false):=zbs (by kernel_rfl)
theorem zpY{α:Type}{xs:List α}{i:Nat}{x:α}(h:xs[i]? = some x):(zqa xs)[i]? = some ((i:Int),x):=by
 simp[zqa,h]
theorem zp9{α:Type}(xs:List α):(zqa xs).length=xs.length:=by simp[zqa]
theorem zn6{L L1:List LB}(h:L=L1 ++ []):L=L1:=by simpa using h
theorem zhy(x:S_api_Node){u:Unit}(hu:ziE x.rows=some u):Gen mC 169 [] [.fptr false (zac.c false x)] (zqa x.rows) (fun y n0 args G=>args=[dI y.1,fzE false (eI .i64) y.2]∧G=[]):=by
 intro n0 β P Ps hβ hlen hround L hP;refine zdD.ofM zp1 (zaZ rfl) (qac rfl) ?_;simp only[zqP,zlX];refine zaa ?_;simp only[rnA,Nat.reduceEqDiff,Nat.reduceLT,Nat.reduceAdd,Nat.reduceLeDiff,reduceCtorEq,zat,zam];refine EvL.scope (zaa ?_);simp only[rnA];have hw:∀(i:Nat),(i:Int)<x.rows.length→IntKind.i64.wrap ((i:Int)+1)=((i+1:Nat):Int):=by
  intro i hi;have:=zgK hu;rw[wrap64 (by omega) (by omega)];omega
 refine EvL.loop (α:=Nat×List LB) (fun a=>⟨19,[(0,.yld β),(6,fzE false (eL (eI .i64)) x.rows),(7,dI x.rows.length),(8,dI a.1)],a.2⟩) (fun a=>P a.1 a.2∧a.1≤x.rows.length) (fun a=>x.rows.length - a.1) (0,L) (zaV.sub ⟨rfl,rfl,rfl,rfl,qb1⟩) ⟨hP,qbn _⟩ ?_;rintro⟨i,L'⟩ ⟨hPi,hi⟩;simp only[zlS,zlX];refine zaa ?_;cases hc:decide ((i:Int)<(x.rows.length:Int))with
 | false=>
  simp only[rnA,Nat.reduceEqDiff,Nat.reduceLT,reduceCtorEq,hc];refine⟨[],rfl,L',[],by simp,hlen _ _ hPi,.inl ?_⟩;rw[zp9];have h1:=of_decide_eq_false hc;have h2:i=x.rows.length:=by omega
  rw[← h2];exact hPi
 | true=>
  have h1:=of_decide_eq_true hc;have h2:i<x.rows.length:=by omega
  have hg:za6 x.rows (i:Int)=some x.rows[i]:=zp0 h2;simp only[rnA,Nat.reduceEqDiff,Nat.reduceLT,reduceCtorEq,hc,zak (n:=1) (e:=eL (eI .i64)) rfl hg];refine EvL.yield rfl rfl rfl (hround i ((i:Int),x.rows[i]) L' _ [] (zpY (qaf h2)) hPi ⟨rfl,rfl⟩|> fun h=>by rw[qaC]at h; exact h) ?_;rintro b L2 ⟨L1,hL2,hl1,hb⟩;have:=zn6 hL2;subst this;cases b with
  | true=>
   simp only[rnA,Nat.reduceEqDiff,Nat.reduceLT,reduceCtorEq];refine⟨(i+1,L2),⟨hb,h2⟩,?_,zaV.sub ⟨rfl,rfl,rfl,?_,qb1⟩⟩
   ·show x.rows.length - (i+1)<x.rows.length - i; omega
   ·simp only[lk,if_true];rw[hw i h1]
  | false=>
   simp only[rnA,Nat.reduceEqDiff,Nat.reduceLT,reduceCtorEq];exact⟨[],rfl,L2,[],by simp,hl1,.inr hb⟩
def zdC(q:S_eliminate_query)(list:List S_api_Factor)(order:List Int):Option (S_eliminate_query×List S_api_Factor×List Int):=some (q,list,order)
theorem ziA{α:Type}{L:List LB}{F:Nat→Bool}{β:Nat}{t2 t:Bool}(e:En α)(x:α)(hF:F β=true)(hL:L[β]? = some (.cells (e.c t x)))(h:t2=true→t=true):Mz L F false (.ptr β 0) (.fptr t2 (e.c t2 x)):=
 .ptr hF hL (by rw[e.len,e.len]; omega) fun k d d' h1 h2=>e.mz x (by simpa using h) k d d' (by rwa [qay]at h1) h2
theorem zeA{q:S_eliminate_query}{list:List S_api_Factor}{order:List Int}{r:S_eliminate_query×List S_api_Factor×List Int}(h:zdC q list order=some r):
  FnT mC 99 [.agg (zao.c false q),fzE false zab list,fzE false (eI .i64) order]
   [.clo 127 [] [.fptr false ((eL (eI .i64)).c false r.2.2),.fptr false (zao.c false r.1),.ptr 1 0]] [.gone,.cells [fzE false zab r.2.1]]:=by
 cases h;refine ztS (by conv=>lhs; cbv) ?_;refine zaa ?_;simp only[rnA,Nat.reduceEqDiff,reduceIte,Nat.reduceLT,Nat.reduceAdd,Nat.reduceLeDiff,Nat.reduceMul,Nat.reduceSub,Int.reduceLE,Int.reduceLT,Int.reduceBEq,Nat.reduceBEq,reduceCtorEq,zaw,zcP];exact zq0.ret ⟨8,[(6,.clo 127 [] [.fptr false ((eL (eI .i64)).c false order),.fptr false (zao.c false q),.ptr 1 0])],[.gone,.cells [fzE false zab list]]⟩
  (zaV.m0 [.f,.k,.f] rfl (mx rfl (Mo.clo rfl rfl (Mos.get .nil) (Mos.get (.cons (.fr (ziA (t:=false) (eL (eI .i64)) order rfl rfl (fun h=>h))) (.cons (.fr (ziA (t:=false) zao q rfl rfl (fun h=>h))) (.cons (.same rfl) .nil))))) trivial) ⟨rfl,⟨MB.cs ⟨qb1,qb1⟩,qb1⟩⟩) rfl rfl
def zdI(p0:(List Int)):Nat→Int→Int→Option (Int×Bool)
 | 0,_,_=>none
 | n+1,v2,v11=>(
bif (decide (v11<(p0.length:Int)))then(
(za6 p0 v11).bind fun x3=>
((bif (decide (x3<1))then(
some true)
else(
bif (decide (8<x3))then(
some true)
else(
some (decide (4096<(w64 (v2 * x3)))))):Option Bool)).bind fun v15=>
bif v15 then(
some (0,false))
else(
zdI p0 n (w64 (v2 * x3)) (w64 (v11+1))))
else(
some (v2,true)))
def zfj(p0:(List Int)):Option (Int×Bool):=
bif (decide (12<(p0.length:Int)))then(
some (0,false))
else(
((zdI p0 ((p0.length:Int) - 0+2:Int).toNat 1 0:Option ((Int×Bool)))).bind fun o=>match o with
|(v2,v3)=>(
some (v2,v3)))
theorem zi5{p0:(List Int)}{r:(Int×Bool)}(h:zfj p0=some r):Lx.Fn mC 119 [(fzE false (eI .i64) p0)] (.tup [(dI r.1),(dB r.2)]):=by
 refine fnO (by conv=>lhs; cbv) ?_;unfold zfj at h;refine zaa ?_;try simp only[rnA,Nat.reduceLT]
 refine EvL.scope (zaa ?_);try simp only[rnA,Nat.reduceEqDiff,Nat.reduceLT,reduceCtorEq,zam]
 cases c1:(decide (12<(p0.length:Int)))
 ·rw[c1,cond_false]at h;try simp only[rnA,Nat.reduceEqDiff,Nat.reduceLT,reduceCtorEq,zam]
  obtain⟨o12,j12,h⟩:=bind_some h;obtain⟨T12,hT12⟩:=mkT fun a:(Int×Bool)=>⟨30,[(2,(dI a.1)),(3,(dB a.2))],[]⟩
  refine EvL.jn T12 (fun a=>a=o12) ?_ ?_
  ·refine zaa ?_;simp only[rnA];obtain⟨T15,hT15⟩:=mkT fun a:(Int×Int)=>⟨30,[(2,(dI a.1)),(3,(dB true)),(9,(fzE false (eI .i64) p0)),(10,(dI (p0.length:Int))),(11,(dI a.2))],[]⟩
   refine EvL.rounds (α:=(Int×Int)) T15 (fun n a=>zdI p0 n a.1 a.2=some o12) ((p0.length:Int) - 0+2:Int).toNat (1,0) (by rw[hT15]; exact wm0 [] (by exact trivial)) j12 (fun _ h=>nomatch (show(none:Option (Int×Bool))=some o12 from h)) ?_;rintro n ⟨v2,v11⟩ j12;simp only[zdI]at j12;rw[congrFun hT15 (v2,v11)];refine zaa ?_;try simp only[rnA,Nat.reduceEqDiff,Nat.reduceLT]
   cases c2:(decide (v11<(p0.length:Int)))
   ·rw[c2,cond_false]at j12;try simp only[rnA]
    replace j12:=qaa j12; subst j12;exact lfj hT12 rfl (wm0 [] (by exact trivial))
   rw[c2,cond_true]at j12;obtain⟨x3,g4,j12⟩:=bind_some j12;try simp only[rnA,Nat.reduceEqDiff,Nat.reduceLT,zak (n:=1) (e:=(eI .i64)) rfl g4]
   obtain⟨o16,j16,j12⟩:=bind_some j12;obtain⟨T16,hT16⟩:=mkT fun a:Bool=>⟨30,[(2,(dI v2)),(3,(dB true)),(5,(dI x3)),(9,(fzE false (eI .i64) p0)),(10,(dI (p0.length:Int))),(11,(dI v11)),(15,(dB a))],[]⟩
   refine EvL.jn T16 (fun a=>a=o16) ?_ ?_
   ·refine zaa ?_;try simp only[rnA,Nat.reduceEqDiff]
    cases c5:(decide (x3<1))
    ·rw[c5,cond_false]at j16;try simp only[rnA,Nat.reduceEqDiff,Nat.reduceLT]
     cases c6:(decide (8<x3))
     ·rw[c6,cond_false]at j16;try simp only[rnA,Nat.reduceEqDiff,Nat.reduceLT]
      replace j16:=qaa j16; subst j16;exact lfj hT16 rfl (wm0 [] (by exact trivial))
     rw[c6,cond_true]at j16;try simp only[rnA]
     replace j16:=qaa j16; subst j16;exact lfj hT16 rfl (wm0 [] (by exact trivial))
    rw[c5,cond_true]at j16;try simp only[rnA]
    replace j16:=qaa j16; subst j16;exact lfj hT16 rfl (wm0 [] (by exact trivial))
   rintro v15 rfl;rw[congrFun hT16 v15];refine zaa ?_;try simp only[rnA,Nat.reduceEqDiff]
   cases c7:v15
   ·rw[c7,cond_false]at j12;try simp only[rnA,Nat.reduceEqDiff,Nat.reduceLT]
    exact⟨((w64 (v2 * x3)),(w64 (v11+1))),j12,by rw[hT15]; exact wm0 [] (by exact trivial)⟩
   rw[c7,cond_true]at j12;try simp only[rnA,Nat.reduceEqDiff,Nat.reduceLT,reduceCtorEq]
   replace j12:=qaa j12; subst j12;exact lfj hT12 rfl (wm0 [] (by exact trivial))
  rintro⟨v2,v3⟩ rfl;dsimp only at h;rw[congrFun hT12 (v2,v3)];refine zaa ?_;try simp only[rnA,Nat.reduceEqDiff,Nat.reduceLT]
  replace h:=qaa h; subst h;exact za0.ret rfl (Snp.zb7 (.cons (.lit _) (.cons (.lit _) .nil)))
 rw[c1,cond_true]at h;try simp only[rnA,Nat.reduceLT]
 replace h:=qaa h; subst h;exact za0.ret rfl (Snp.zb7 (.cons (.lit _) (.cons (.lit _) .nil)))
def zet(p0:(List Int)):Option (Int×Int):=
(zfj p0).bind fun r1=>
bif r1.2 then(
some (r1.1,0))
else(
some (0,20))
theorem zgO{p0:(List Int)}{r:(Int×Int)}(h:zet p0=some r):Lx.Fn mC 83 [(fzE false (eI .i64) p0)] (.tup [(dI r.1),(dI r.2)]):=by
 refine fnO (by conv=>lhs; cbv) ?_;unfold zet at h;refine zaa ?_;obtain⟨r1,g2,h⟩:=bind_some h;try simp only[rnA,Nat.reduceEqDiff,reduceIte,Nat.reduceLT,Nat.reduceAdd,Nat.reduceLeDiff,Nat.reduceMul,Nat.reduceSub,Int.reduceLE,Int.reduceLT,Int.reduceBEq,Nat.reduceBEq,reduceCtorEq]
 refine EvL.fn (zi5 g2) rfl rfl (.cons (zad _ _ (fun h=>nomatch h)) .nil) ?_;try simp only[rnA,Nat.reduceEqDiff,reduceIte,Nat.reduceLT,Nat.reduceAdd,Nat.reduceLeDiff,Nat.reduceMul,Nat.reduceSub,Int.reduceLE,Int.reduceLT,Int.reduceBEq,Nat.reduceBEq,reduceCtorEq]
 cases c3:r1.2
 ·rw[c3,cond_false]at h;try simp only[rnA,Nat.reduceEqDiff,reduceIte,Nat.reduceLT,Nat.reduceAdd,Nat.reduceLeDiff,Nat.reduceMul,Nat.reduceSub,Int.reduceLE,Int.reduceLT,Int.reduceBEq,Nat.reduceBEq,reduceCtorEq,c3]
  replace h:=qaa h; subst h;exact za0.ret rfl (Snp.zb7 (.cons (.lit _) (.cons (.lit _) .nil)))
 rw[c3,cond_true]at h;try simp only[rnA,Nat.reduceEqDiff,reduceIte,Nat.reduceLT,Nat.reduceAdd,Nat.reduceLeDiff,Nat.reduceMul,Nat.reduceSub,Int.reduceLE,Int.reduceLT,Int.reduceBEq,Nat.reduceBEq,reduceCtorEq,c3]
 replace h:=qaa h; subst h;exact za0.ret rfl (Snp.zb7 (.cons (.lit _) (.cons (.lit _) .nil)))
def zdK(p0:S_api_Factor):Nat→Int→Int→Option (Out Unit (S_factor_table×Int))
 | 0,_,_=>none
 | n+1,v6,v42=>(
bif (decide (v42<(p0.vars.length:Int)))then(
(za6 p0.vars v42).bind fun x7=>
((bif (decide (x7≤v6))then(
some true)
else(
some (decide (63<x7))):Option Bool)).bind fun v52=>
bif v52 then(
some (.ret ((S_factor_table.mk (S_api_Factor.mk [] [] []) []),30)))
else(
zdK p0 n x7 (w64 (v42+1))))
else(
some (.go ())))
def zdH(p0:S_api_Factor):Nat→Int→Option (Out Unit (S_factor_table×Int))
 | 0,_=>none
 | n+1,v59=>(
bif (decide (v59<(p0.w.length:Int)))then(
(za6 p0.w v59).bind fun x12=>
((bif (decide (x12<0))then(
some true)
else(
some (decide (4611686018427387903<x12))):Option Bool)).bind fun v68=>
bif v68 then(
some (.ret ((S_factor_table.mk (S_api_Factor.mk [] [] []) []),30)))
else(
zdH p0 n (w64 (v59+1))))
else(
some (.go ())))
def zdL(p0:S_api_Factor):Nat→Int→Int→(List Int)→Option (List Int)
 | 0,_,_,_=>none
 | n+1,v12,v13,l2=>(
bif (decide (0≤v13))then(
(za6 l2 v13).bind fun x19=>
(zgN l2 v13 v12).bind fun y21=>
(za6 p0.cards v13).bind fun x23=>
zdL p0 n (w64 (v12 * x23)) (w64 (v13 - 1)) y21)
else(
some l2))
def zcc(p0:S_api_Factor):Option (S_factor_table×Int):=
(zet p0.cards).bind fun r1=>
((bif (r1.2 == 0)then(
bif ((p0.vars.length:Int)==(p0.cards.length:Int))then(
some (!((p0.w.length:Int)== r1.1)))
else(
some true))
else(
some true):Option Bool)).bind fun v37=>
bif v37 then(
some ((S_factor_table.mk (S_api_Factor.mk [] [] []) []),30))
else(
((zdK p0 ((p0.vars.length:Int) - 0+2:Int).toNat (-1) 0:Option (Out Unit (S_factor_table×Int)))).bind fun o=>match o with
| .go _=>(
((zdH p0 ((p0.w.length:Int) - 0+2:Int).toNat 0:Option (Out Unit (S_factor_table×Int)))).bind fun o=>match o with
| .go _=>(
(zeO 8 (p0.cards.length:Int) 0).bind fun y16=>
((zdL p0 ((w64 ((((Int.toNat (p0.cards.length:Int)):Nat):Int) - 1)) - 0+2:Int).toNat 1 (w64 ((((Int.toNat (p0.cards.length:Int)):Nat):Int) - 1)) y16:Option (List Int))).bind fun l2=>
some ((S_factor_table.mk p0 l2),0))
| .ret r=>some r)
| .ret r=>some r)
theorem zcW{p0:S_api_Factor}{r:(S_factor_table×Int)}(h:zcc p0=some r):Lx.FnA mC 77 [(.agg [(fzE false (eI .i64) p0.vars),(fzE false (eI .i64) p0.cards),(fzE false (eI .i64) p0.w)])] (.tup [(.agg [(fzE false (eI .i64) r.1.factor.vars),(fzE false (eI .i64) r.1.factor.cards),(fzE false (eI .i64) r.1.factor.w),(fzE false (eI .i64) r.1.steps)]),(dI r.2)]):=by
 refine zqN (by conv=>lhs; cbv) ?_;unfold zcc at h;refine zaa ?_;obtain⟨r1,g2,h⟩:=bind_some h;try simp only[rnA,Nat.reduceEqDiff,Nat.reduceLT,reduceCtorEq]
 refine EvL.fn (zgO g2) rfl rfl (.cons (zad _ _ (fun h=>nomatch h)) .nil) ?_;try simp only[rnA,Nat.reduceEqDiff,Nat.reduceLT,reduceCtorEq]
 obtain⟨o1,j1,h⟩:=bind_some h;obtain⟨T1,hT1⟩:=mkT fun a:Bool=>⟨96,[(1,(.ptr 0 0)),(2,(.ptr 1 0)),(37,(dB a))],[.cells [(fzE false (eI .i64) p0.vars),(fzE false (eI .i64) p0.cards),(fzE false (eI .i64) p0.w)],.cells [zaD,zaD,zaD,zaD]]⟩
 refine EvL.jn T1 (fun a=>a=o1) ?_ ?_
 ·refine zaa ?_;try simp only[rnA,Nat.reduceEqDiff,Nat.reduceLT,reduceCtorEq]
  cases c3:(r1.2 == 0)
  ·rw[c3,cond_false]at j1;try simp only[rnA,Nat.reduceEqDiff,Nat.reduceLT,reduceCtorEq]
   replace j1:=qaa j1; subst j1;exact lfj hT1 rfl (wm0 [.k,.k] ⟨MB.cs ⟨qb1,qb1,qb1,qb1⟩,⟨MB.cs ⟨qb1,qb1,qb1,qb1,qb1⟩,qb1⟩⟩)
  rw[c3,cond_true]at j1;try simp only[rnA,Nat.reduceEqDiff,Nat.reduceLT,reduceCtorEq,zam]
  cases c4:((p0.vars.length:Int)==(p0.cards.length:Int))
  ·rw[c4,cond_false]at j1;try simp only[rnA,Nat.reduceEqDiff,Nat.reduceLT,reduceCtorEq]
   replace j1:=qaa j1; subst j1;exact lfj hT1 rfl (wm0 [.k,.k] ⟨MB.cs ⟨qb1,qb1,qb1,qb1⟩,⟨MB.cs ⟨qb1,qb1,qb1,qb1,qb1⟩,qb1⟩⟩)
  rw[c4,cond_true]at j1;try simp only[rnA,Nat.reduceEqDiff,Nat.reduceLT,reduceCtorEq,zam]
  replace j1:=qaa j1; subst j1;exact lfj hT1 rfl (wm0 [.k,.k] ⟨MB.cs ⟨qb1,qb1,qb1,qb1⟩,⟨MB.cs ⟨qb1,qb1,qb1,qb1,qb1⟩,qb1⟩⟩)
 rintro v37 rfl;rw[congrFun hT1 v37];refine zaa ?_;try simp only[rnA,Nat.reduceEqDiff]
 cases c5:v37
 ·rw[c5,cond_false]at h;try simp only[rnA,Nat.reduceEqDiff,Nat.reduceLT,zam]
  obtain⟨o5,j5,h⟩:=bind_some h;obtain⟨T5,hT5⟩:=mkT fun a:Unit=>⟨96,[(1,(.ptr 0 0)),(2,(.ptr 1 0))],[.cells [(fzE false (eI .i64) p0.vars),(fzE false (eI .i64) p0.cards),(fzE false (eI .i64) p0.w)],.cells [zaD,zaD,zaD,zaD]]⟩
  refine EvL.jn T5 (fun a=>o5=.go a) ?_ ?_
  ·refine zaa ?_;simp only[rnA];obtain⟨T8,hT8⟩:=mkT fun a:(Int×Int)=>⟨96,[(1,(.ptr 0 0)),(2,(.ptr 1 0)),(6,(dI a.1)),(40,(fzE false (eI .i64) p0.vars)),(41,(dI (p0.vars.length:Int))),(42,(dI a.2))],[.cells [(fzE false (eI .i64) p0.vars),(fzE false (eI .i64) p0.cards),(fzE false (eI .i64) p0.w)],.cells [zaD,zaD,zaD,zaD]]⟩
   refine EvL.rounds (α:=(Int×Int)) T8 (fun n a=>zdK p0 n a.1 a.2=some o5) ((p0.vars.length:Int) - 0+2:Int).toNat ((-1),0) (by rw[hT8]; exact wm0 [.k,.k] ⟨MB.cs ⟨qb1,qb1,qb1,qb1⟩,⟨MB.cs ⟨qb1,qb1,qb1,qb1,qb1⟩,qb1⟩⟩) j5 (fun _ h=>nomatch (show(none:Option (Out Unit (S_factor_table×Int)))=some o5 from h)) ?_;rintro n ⟨v6,v42⟩ j5;simp only[zdK]at j5;rw[congrFun hT8 (v6,v42)];refine zaa ?_;try simp only[rnA,Nat.reduceEqDiff,Nat.reduceLT]
   cases c6:(decide (v42<(p0.vars.length:Int)))
   ·rw[c6,cond_false]at j5;try simp only[rnA]
    replace j5:=qaa j5; subst j5;exact lfj hT5 rfl (wm0 [.k,.k] ⟨MB.cs ⟨qb1,qb1,qb1,qb1⟩,⟨MB.cs ⟨qb1,qb1,qb1,qb1,qb1⟩,qb1⟩⟩)
   rw[c6,cond_true]at j5;obtain⟨x7,g8,j5⟩:=bind_some j5;try simp only[rnA,Nat.reduceEqDiff,Nat.reduceLT,zak (n:=1) (e:=(eI .i64)) rfl g8]
   obtain⟨o9,j9,j5⟩:=bind_some j5;obtain⟨T9,hT9⟩:=mkT fun a:Bool=>⟨96,[(1,(.ptr 0 0)),(2,(.ptr 1 0)),(8,(dI x7)),(40,(fzE false (eI .i64) p0.vars)),(41,(dI (p0.vars.length:Int))),(42,(dI v42)),(52,(dB a))],[.cells [(fzE false (eI .i64) p0.vars),(fzE false (eI .i64) p0.cards),(fzE false (eI .i64) p0.w)],.cells [zaD,zaD,zaD,zaD]]⟩
   refine EvL.jn T9 (fun a=>a=o9) ?_ ?_
   ·refine zaa ?_;try simp only[rnA,Nat.reduceEqDiff,Nat.reduceLT]
    cases c9:(decide (x7≤v6))
    ·rw[c9,cond_false]at j9;try simp only[rnA,Nat.reduceEqDiff,Nat.reduceLT]
     replace j9:=qaa j9; subst j9;exact lfj hT9 rfl (wm0 [.k,.k] ⟨MB.cs ⟨qb1,qb1,qb1,qb1⟩,⟨MB.cs ⟨qb1,qb1,qb1,qb1,qb1⟩,qb1⟩⟩)
    rw[c9,cond_true]at j9;try simp only[rnA,Nat.reduceEqDiff,Nat.reduceLT]
    replace j9:=qaa j9; subst j9;exact lfj hT9 rfl (wm0 [.k,.k] ⟨MB.cs ⟨qb1,qb1,qb1,qb1⟩,⟨MB.cs ⟨qb1,qb1,qb1,qb1,qb1⟩,qb1⟩⟩)
   rintro v52 rfl;rw[congrFun hT9 v52];refine zaa ?_;try simp only[rnA,Nat.reduceEqDiff]
   cases c10:v52
   ·rw[c10,cond_false]at j5;try simp only[rnA,Nat.reduceEqDiff,Nat.reduceLT]
    exact⟨(x7,(w64 (v42+1))),j5,by rw[hT8]; exact wm0 [.k,.k] ⟨MB.cs ⟨qb1,qb1,qb1,qb1⟩,⟨MB.cs ⟨qb1,qb1,qb1,qb1,qb1⟩,qb1⟩⟩⟩
   rw[c10,cond_true]at j5;try simp only[rnA,Nat.reduceEqDiff,Nat.reduceLT,Nat.reduceAdd,Nat.reduceLeDiff]
   replace j5:=qaa j5; subst j5;dsimp only at h;replace h:=qaa h; subst h;exact zfD.ret rfl (Snp.zb7 (.cons (.za8 (.cons (zah (eI .i64)) (.cons (zah (eI .i64)) (.cons (zah (eI .i64)) (.cons (zah (eI .i64)) .nil))))) (.cons (.lit _) .nil)))
  rintro⟨⟩ rfl;dsimp only at h;rw[congrFun hT5 ()];refine zaa ?_;try simp only[rnA,Nat.reduceEqDiff,Nat.reduceLT,zam]
  obtain⟨o13,j13,h⟩:=bind_some h;obtain⟨T13,hT13⟩:=mkT fun a:Unit=>⟨96,[(1,(.ptr 0 0)),(2,(.ptr 1 0))],[.cells [(fzE false (eI .i64) p0.vars),(fzE false (eI .i64) p0.cards),(fzE false (eI .i64) p0.w)],.cells [zaD,zaD,zaD,zaD]]⟩
  refine EvL.jn T13 (fun a=>o13=.go a) ?_ ?_
  ·refine zaa ?_;simp only[rnA];obtain⟨T16,hT16⟩:=mkT fun a:Int=>⟨96,[(1,(.ptr 0 0)),(2,(.ptr 1 0)),(57,(fzE false (eI .i64) p0.w)),(58,(dI (p0.w.length:Int))),(59,(dI a))],[.cells [(fzE false (eI .i64) p0.vars),(fzE false (eI .i64) p0.cards),(fzE false (eI .i64) p0.w)],.cells [zaD,zaD,zaD,zaD]]⟩
   refine EvL.rounds (α:=Int) T16 (fun n a=>zdH p0 n a=some o13) ((p0.w.length:Int) - 0+2:Int).toNat 0 (by rw[hT16]; exact wm0 [.k,.k] ⟨MB.cs ⟨qb1,qb1,qb1,qb1⟩,⟨MB.cs ⟨qb1,qb1,qb1,qb1,qb1⟩,qb1⟩⟩) j13 (fun _ h=>nomatch (show(none:Option (Out Unit (S_factor_table×Int)))=some o13 from h)) ?_;rintro n v59 j13;simp only[zdH]at j13;rw[congrFun hT16 v59];refine zaa ?_;try simp only[rnA,Nat.reduceEqDiff,Nat.reduceLT]
   cases c11:(decide (v59<(p0.w.length:Int)))
   ·rw[c11,cond_false]at j13;try simp only[rnA]
    replace j13:=qaa j13; subst j13;exact lfj hT13 rfl (wm0 [.k,.k] ⟨MB.cs ⟨qb1,qb1,qb1,qb1⟩,⟨MB.cs ⟨qb1,qb1,qb1,qb1,qb1⟩,qb1⟩⟩)
   rw[c11,cond_true]at j13;obtain⟨x12,g13,j13⟩:=bind_some j13;try simp only[rnA,Nat.reduceEqDiff,Nat.reduceLT,zak (n:=1) (e:=(eI .i64)) rfl g13]
   obtain⟨o17,j17,j13⟩:=bind_some j13;obtain⟨T17,hT17⟩:=mkT fun a:Bool=>⟨96,[(1,(.ptr 0 0)),(2,(.ptr 1 0)),(57,(fzE false (eI .i64) p0.w)),(58,(dI (p0.w.length:Int))),(59,(dI v59)),(68,(dB a))],[.cells [(fzE false (eI .i64) p0.vars),(fzE false (eI .i64) p0.cards),(fzE false (eI .i64) p0.w)],.cells [zaD,zaD,zaD,zaD]]⟩
   refine EvL.jn T17 (fun a=>a=o17) ?_ ?_
   ·refine zaa ?_;try simp only[rnA,Nat.reduceEqDiff,Nat.reduceLT]
    cases c14:(decide (x12<0))
    ·rw[c14,cond_false]at j17;try simp only[rnA,Nat.reduceEqDiff,Nat.reduceLT]
     replace j17:=qaa j17; subst j17;exact lfj hT17 rfl (wm0 [.k,.k] ⟨MB.cs ⟨qb1,qb1,qb1,qb1⟩,⟨MB.cs ⟨qb1,qb1,qb1,qb1,qb1⟩,qb1⟩⟩)
    rw[c14,cond_true]at j17;try simp only[rnA,Nat.reduceEqDiff,Nat.reduceLT]
    replace j17:=qaa j17; subst j17;exact lfj hT17 rfl (wm0 [.k,.k] ⟨MB.cs ⟨qb1,qb1,qb1,qb1⟩,⟨MB.cs ⟨qb1,qb1,qb1,qb1,qb1⟩,qb1⟩⟩)
   rintro v68 rfl;rw[congrFun hT17 v68];refine zaa ?_;try simp only[rnA,Nat.reduceEqDiff]
   cases c15:v68
   ·rw[c15,cond_false]at j13;try simp only[rnA,Nat.reduceEqDiff,Nat.reduceLT]
    exact⟨(w64 (v59+1)),j13,by rw[hT16]; exact wm0 [.k,.k] ⟨MB.cs ⟨qb1,qb1,qb1,qb1⟩,⟨MB.cs ⟨qb1,qb1,qb1,qb1,qb1⟩,qb1⟩⟩⟩
   rw[c15,cond_true]at j13;try simp only[rnA,Nat.reduceEqDiff,Nat.reduceLT,Nat.reduceAdd,Nat.reduceLeDiff]
   replace j13:=qaa j13; subst j13;dsimp only at h;replace h:=qaa h; subst h;exact zfD.ret rfl (Snp.zb7 (.cons (.za8 (.cons (zah (eI .i64)) (.cons (zah (eI .i64)) (.cons (zah (eI .i64)) (.cons (zah (eI .i64)) .nil))))) (.cons (.lit _) .nil)))
  rintro⟨⟩ rfl;dsimp only at h;rw[congrFun hT13 ()];refine zaa ?_;obtain⟨y16,g17,h⟩:=bind_some h;try simp only[rnA,Nat.reduceEqDiff,Nat.reduceLT,Nat.reduceAdd,zam,(zau g17).1.1,(zau g17).1.2,qa1,(show List.replicate (Int.toNat (p0.cards.length:Int)) [(dI 0)]=y16.map ((eI .i64).c true)from zbD g17 ((eI .i64).c true)),zaN g17]
  obtain⟨o18,j18,h⟩:=bind_some h;obtain⟨T18,hT18⟩:=mkT fun a:(List Int)=>⟨96,[(1,(.ptr 0 0)),(2,(.ptr 1 0)),(11,(.sl 2 0 1 (Int.toNat (p0.cards.length:Int)) (some (Int.toNat (p0.cards.length:Int))) (Int.toNat (p0.cards.length:Int))))],[.cells [(fzE false (eI .i64) p0.vars),(fzE false (eI .i64) p0.cards),(fzE false (eI .i64) p0.w)],.cells [zaD,zaD,zaD,zaD],.els 1 (a.map ((eI .i64).c true))]⟩
  refine EvL.jn T18 (fun a=>a=o18∧a.length=(Int.toNat (p0.cards.length:Int))) ?_ ?_
  ·refine zaa ?_;simp only[rnA];obtain⟨T19,hT19⟩:=mkT fun a:(Int×Int×(List Int))=>⟨96,[(1,(.ptr 0 0)),(2,(.ptr 1 0)),(11,(.sl 2 0 1 (Int.toNat (p0.cards.length:Int)) (some (Int.toNat (p0.cards.length:Int))) (Int.toNat (p0.cards.length:Int)))),(12,(dI a.1)),(13,(dI a.2.1))],[.cells [(fzE false (eI .i64) p0.vars),(fzE false (eI .i64) p0.cards),(fzE false (eI .i64) p0.w)],.cells [zaD,zaD,zaD,zaD],.els 1 (a.2.2.map ((eI .i64).c true))]⟩
   refine EvL.rounds (α:=(Int×Int×(List Int))) T19 (fun n a=>zdL p0 n a.1 a.2.1 a.2.2=some o18∧a.2.2.length=(Int.toNat (p0.cards.length:Int))) ((w64 ((((Int.toNat (p0.cards.length:Int)):Nat):Int) - 1)) - 0+2:Int).toNat (1,(w64 ((((Int.toNat (p0.cards.length:Int)):Nat):Int) - 1)),y16) (by rw[hT19]; exact wm0 [.k,.k,.k] ⟨MB.cs ⟨qb1,qb1,qb1,qb1⟩,⟨MB.cs ⟨qb1,qb1,qb1,qb1,qb1⟩,⟨MB.es (eI .i64) true y16,qb1⟩⟩⟩) ⟨j18,zaN g17⟩ (fun _ h=>nomatch (show(none:Option (List Int))=some o18 from h.1)) ?_;rintro n ⟨v12,v13,l2⟩ ⟨j18,el2⟩;simp only[zdL]at j18;rw[congrFun hT19 (v12,v13,l2)];refine zaa ?_;try simp only[rnA,Nat.reduceEqDiff,Nat.reduceLT]
   cases c18:(decide (0≤v13))
   ·rw[c18,cond_false]at j18;try simp only[rnA]
    replace j18:=qaa j18; subst j18;exact⟨_,⟨rfl,el2⟩,by rw[hT18]; exact wm0 [.k,.k,.k] ⟨MB.cs ⟨qb1,qb1,qb1,qb1⟩,⟨MB.cs ⟨qb1,qb1,qb1,qb1,qb1⟩,⟨MB.es (eI .i64) true l2,qb1⟩⟩⟩⟩
   rw[c18,cond_true]at j18;obtain⟨x19,g20,j18⟩:=bind_some j18;obtain⟨y21,g22,j18⟩:=bind_some j18;obtain⟨x23,g24,j18⟩:=bind_some j18;try simp only[rnA,Nat.reduceEqDiff,Nat.reduceLT,Nat.reduceLeDiff,el2,za3 g20,(show v13<(((Int.toNat (p0.cards.length:Int)):Nat):Int)from el2 ▸ zaY g20),zaB g20 ((eI .i64).c true),(show(l2.map ((eI .i64).c true)).set v13.toNat [(dI v12)]=y21.map ((eI .i64).c true)from za2 g22 ((eI .i64).c true)),zak (n:=1) (e:=(eI .i64)) rfl g24]
   exact⟨((w64 (v12 * x23)),(w64 (v13 - 1)),y21),⟨j18,(zaR g22).trans el2⟩,by rw[hT19]; exact wm0 [.k,.k,.k] ⟨MB.cs ⟨qb1,qb1,qb1,qb1⟩,⟨MB.cs ⟨qb1,qb1,qb1,qb1,qb1⟩,⟨MB.es (eI .i64) true y21,qb1⟩⟩⟩⟩
  rintro l2 ⟨rfl,el2⟩;rw[congrFun hT18 l2];refine zaa ?_;try simp only[rnA,Nat.reduceEqDiff,Nat.reduceLT,Nat.reduceAdd,Nat.reduceLeDiff]
  replace h:=qaa h; subst h;exact zfD.ret rfl (Snp.zb7 (.cons (.za8 (.cons (zad _ _ (fun h=>nomatch h)) (.cons (zad _ _ (fun h=>nomatch h)) (.cons (zad _ _ (fun h=>nomatch h)) (.cons (zaj (e:=(eI .i64)) (t:=true) rfl (.inl rfl) (el2).symm (el2).symm (fun k h=>by cases h; exact qae _) (fun h=>nomatch h)) .nil))))) (.cons (.lit _) .nil)))
 rw[c5,cond_true]at h;try simp only[rnA,Nat.reduceEqDiff,Nat.reduceLT,Nat.reduceAdd,Nat.reduceLeDiff]
 replace h:=qaa h; subst h;exact zfD.ret rfl (Snp.zb7 (.cons (.za8 (.cons (zah (eI .i64)) (.cons (zah (eI .i64)) (.cons (zah (eI .i64)) (.cons (zah (eI .i64)) .nil))))) (.cons (.lit _) .nil)))
theorem zpc{α:Type}{L:List LB}{β:Nat}(e:En α)(x:α)(h:L[β]? = some (.cells (e.c false x))):Snp L false (.ptr β 0) (.fptr false (e.c false x)):=
 .ptr h (by omega) fun k d d' h3 h4=>by
  rw[qay]at h3;exact(e.snp (L:=L) (t:=false) (t':=false) x id).get k d d' h3 h4
def zcj(cards steps:List Int):Option (List Int×List Int):=some (cards,steps)
def zfs:C:=
 .seq (rg [oW 2 0,
 oW 3 1,
 ⟨some 4,.mov (.c .nilFunc),none⟩])
 (.seq (rg [⟨some 5,.clo 120 [] [(.s 2),(.s 3)],none⟩,
 oM 4 5])
 (.ret))
theorem zgW:zhM mC 84=some (6,zfs,[.tmp 4],false):=zbs (by kernel_rfl)
theorem zcF{cards steps:List Int}{r:List Int×List Int}(h:zcj cards steps=some r):
  Lx.FnA mC 84 [fzE false (eI .i64) cards,fzE false (eI .i64) steps] (.clo 120 [] [.fptr false ((eL (eI .i64)).c false r.1),.fptr false ((eL (eI .i64)).c false r.2)]):=by
 cases h;refine FnA.of zgW (zaZ rfl) (qac rfl) ?_;simp only[zfs,zlX];refine zaa ?_;simp only[rnA,Nat.reduceEqDiff,reduceIte,Nat.reduceLT,Nat.reduceAdd,Nat.reduceLeDiff,Nat.reduceMul,Nat.reduceSub,Int.reduceLE,Int.reduceLT,Int.reduceBEq,Nat.reduceBEq,reduceCtorEq];exact zfD.ret rfl (.clo rfl rfl (Snps.get .nil) (Snps.get (.cons (zpc (eL (eI .i64)) cards rfl) (.cons (zpc (eL (eI .i64)) steps rfl) .nil))))
def znl(cards steps:List Int):Nat→List Int→Int→Option (List Int×Int×Int)
 | 0,vals,a=>some (vals,a,-1)
 | k+1,vals,a=>(za6 vals (k:Int)).bind fun v=>(za6 cards (k:Int)).bind fun c=>bif v == w64 (c - 1)then(za6 steps (k:Int)).bind fun st=>(zgN vals (k:Int) 0).bind fun vals'=>znl cards steps k vals' (w64 (a - w64 (v * st)))else some (vals,a,(k:Int))
def zs5(cards steps:List Int):Nat→List Int→Int→Int→Option (List (Int×Int×List Int))
 | 0,_,_,_=>none
 | n+1,vals,i,a=>(znl cards steps cards.length vals a).bind fun r=>bif decide (r.2.2<0)then some [(i,a,vals)]else
   (za6 r.1 r.2.2).bind fun v=>(zgN r.1 r.2.2 (w64 (v+1))).bind fun vals'=>(za6 steps r.2.2).bind fun st=>(zs5 cards steps n vals' (w64 (i+1)) (w64 (r.2.1+st))).map fun l=>(i,a,vals):: l
def zsU(cards steps:List Int):Option (List (Int×Int×List Int)):=(ziE cards).bind fun _=>(zeO 8 (cards.length:Int) 0).bind fun z=>zs5 cards steps ((cards.foldl (· * ·) 1).toNat) z 0 0
theorem zk4{α β:Type}{o:Option α}{f:α→β}{b:β}(h:o.map f=some b):∃ a,o=some a∧b=f a:=by
 cases o with
 | none=>cases h
 | some a=>cases h; exact⟨a,rfl,rfl⟩
theorem zra{L:List LB}{n:Nat}(h:L.length=n)(x:LB):(L ++ [x])[n]? = some x:=by subst h; simp
theorem zry{L:List LB}{n:Nat}(h:L.length=n)(x y:LB):(L ++ [x]).set n y=L ++ [y]:=by subst h; simp
def zqH:C:=
 (.seq (.seq (.scope (.reg true false [oM 19 7,
 oD 20 .geq 19 0,
 oM 21 20,
 oMg 22 4 21 true,
 oMg 23 7 21 true,
 ⟨some 24,.idxS 1 (.s 22) (.s 23),some (21,true)⟩,
 oLg 25 24 21 true,
 oLg 26 1 21 true,
 oMg 27 7 21 true,
 ⟨some 28,.idxS 1 (.s 26) (.s 27),some (21,true)⟩,
 oLg 29 28 21 true,
 oDg 30 .sub 29 1 21 true,
 ⟨some 31,.bin .eql (.s 25) (.s 30),some (21,true)⟩,
 ⟨some 32,.pick (.s 21) (.s 31) (.c (.bool false)),none⟩]))
 (.cond (.s 32) (.skip)
 (.exit 2)))
 (.block 3 (.seq (.reg true false [oM 33 6,
 oM 34 4,
 oM 35 7,
 oI 36 1 34 35,
 oL 37 36,
 oL 38 2,
 oM 39 7,
 oI 40 1 38 39,
 oL 41 40,
 oB 42 .mul 37 41,
 oB 43 .sub 33 42,
 oM 6 43])
 (.seq (rg [oM 44 4,
 oM 45 7,
 oI 46 1 44 45,
 ⟨none,.store 1 (.s 46) (.c (.int .i64 0)),none⟩])
 (rg [oM 47 7,
 oD 48 .sub 47 1,
 oM 7 48])))))
def znj:C:=.block 1 (.seq (.seq (.reg false false [⟨some 11,.mov (.s 0),none⟩,
 ⟨some 12,.mov (.s 5),none⟩,
 ⟨some 13,.mov (.s 6),none⟩,
 ⟨some 14,.zdW (.s 11) [(.s 12),(.s 13)],none⟩,
 ⟨some 15,.un .not (.s 14),none⟩])
 (.cond (.s 15) (.ret)
 (.skip)))
 (.seq (.reg false false [⟨some 16,.load none (.s 1),none⟩,
 ⟨some 17,.len (.s 16),none⟩,
 ⟨some 18,.bin .sub (.s 17) (.c (.int .i64 1)),none⟩,
 ⟨some 7,.mov (.s 18),none⟩])
 (.seq (.scope (.block 2 (.loop zqH)))
 (.seq (.seq (.reg false false [⟨some 49,.mov (.s 7),none⟩,
 ⟨some 50,.bin .lss (.s 49) (.c (.int .i64 0)),none⟩])
 (.cond (.s 50) (.ret)
 (.skip)))
 (.seq (.reg false false [⟨some 51,.mov (.s 4),none⟩,
 ⟨some 52,.mov (.s 7),none⟩,
 ⟨some 53,.idxS 1 (.s 51) (.s 52),none⟩,
 ⟨some 54,.load none (.s 53),none⟩,
 ⟨some 55,.bin .add (.s 54) (.c (.int .i64 1)),none⟩,
 ⟨some 56,.idxS 1 (.s 51) (.s 52),none⟩,
 ⟨none,.store 1 (.s 56) (.s 55),none⟩])
 (.seq (.reg false false [⟨some 57,.mov (.s 6),none⟩,
 ⟨some 58,.load none (.s 2),none⟩,
 ⟨some 59,.mov (.s 7),none⟩,
 ⟨some 60,.idxS 1 (.s 58) (.s 59),none⟩,
 ⟨some 61,.load none (.s 60),none⟩,
 ⟨some 62,.bin .add (.s 57) (.s 61),none⟩,
 ⟨some 6,.mov (.s 62),none⟩])
 (.reg false false [⟨some 63,.mov (.s 5),none⟩,
 ⟨some 64,.bin .add (.s 63) (.c (.int .i64 1)),none⟩,
 ⟨some 5,.mov (.s 64),none⟩])))))))
def zsK:C:=.seq (.reg false false [⟨some 8,.load none (.s 1),none⟩,
 ⟨some 9,.len (.s 8),none⟩,
 ⟨some 10,.mk 1 8 [(.int .i64 0)] (.s 9) (.s 9),none⟩,
 ⟨some 4,.mov (.s 10),none⟩,
 ⟨some 5,.mov (.c (.int .i64 0)),none⟩,
 ⟨some 6,.mov (.c (.int .i64 0)),none⟩])
 (.scope (.block 0 (.loop znj)))
theorem zq4:zhM mC 120=some (65,zsK,[],false):=zbs (by kernel_rfl)
theorem zcx{cards steps:List Int}{u:List (Int×Int×List Int)}(hu:zsU cards steps=some u):
  Gen mC 120 [] [.fptr false ((eL (eI .i64)).c false cards),.fptr false ((eL (eI .i64)).c false steps)] u (fun y n0 args G=>args=[dI y.1,dI y.2.1]∧G=[.els 1 (y.2.2.map ((eI .i64).c true))]):=by
 intro n0 β P Ps hβ hlen hround L hP;refine zdD.ofM zq4 (zaZ rfl) (qac rfl) ?_;obtain⟨_,hsm,hu⟩:=bind_some hu;obtain⟨z,hz,hv⟩:=bind_some hu;have hL:=hlen _ _ hP;have hm:IntKind.i64.wrap ((cards.length:Int) - 1)=(cards.length:Int) - 1:=by
  have:=zgK hsm;exact wrap64 (by omega) (by omega)
 unfold zsK;refine zaa ?_;simp only[rnA,Nat.reduceEqDiff,Nat.reduceLT,Nat.reduceAdd,reduceCtorEq,zam,(zau hz).1.1,(zau hz).1.2,qa1,qbd,(show List.replicate cards.length [(dI 0)]=z.map ((eI .i64).c true)from(zbD hz ((eI .i64).c true)))];refine EvL.scope (zaa ?_);simp only[rnA];rw[hL];refine EvL.loop (α:=Nat×Nat×List Int×Int×Int×List LB) (fun a=>⟨65,[(0,.yld β),(1,.fptr false ((eL (eI .i64)).c false cards)),(2,.fptr false ((eL (eI .i64)).c false steps)),(4,.sl n0 0 1 cards.length (some cards.length) cards.length),(5,dI a.2.2.2.1),(6,dI a.2.2.2.2.1)],a.2.2.2.2.2 ++ [.els 1 (a.2.2.1.map ((eI .i64).c true))]⟩)
  (fun a=>P a.2.1 a.2.2.2.2.2∧zs5 cards steps a.1 a.2.2.1 a.2.2.2.1 a.2.2.2.2.1=some (u.drop a.2.1)∧a.2.2.1.length=cards.length) (fun a=>a.1) ((cards.foldl (· * ·) 1).toNat,0,z,0,0,L) (by refine zaV.sub ?_; exact⟨rfl,rfl,rfl,rfl,rfl,rfl,qb1⟩) ⟨hP,hv,by rw[zaN hz,qbd]⟩ ?_
 rintro⟨n,j,vals,i,at_,L'⟩ ⟨hPi,hvk,hvl⟩;simp only at hPi hvk hvl;cases n with
 | zero=>cases hvk
 | succ n=>
 unfold zs5 at hvk;obtain⟨⟨vals1,at1,kk⟩,hc,hvk⟩:=bind_some hvk;simp only at hvk;have hul:∃ r,u.drop j=(i,at_,vals):: r:=by
  cases hk:decide (kk<0)with
  | true=>rw[hk,cond_true]at hvk; exact⟨[],(qaa hvk).symm⟩
  | false=>
   rw[hk,cond_false]at hvk;obtain⟨v,_,hvk⟩:=bind_some hvk;obtain⟨vals2,_,hvk⟩:=bind_some hvk;obtain⟨st,_,hvk⟩:=bind_some hvk;obtain⟨l,_,hl⟩:=zk4 hvk;exact⟨l,hl⟩
 obtain⟨r,hul⟩:=hul;have hj:j<u.length:=by
  refine Nat.lt_of_not_le fun hn=>?_
  rw[qbc hn]at hul;cases hul
 have huj:u[j]? = some (i,at_,vals):=by
  rw[qa3 hj]at hul;rw[qaf hj,(qbS hul).1]
 have hur:u.drop (j+1)=r:=by
  rw[qa3 hj]at hul;exact(qbS hul).2
 unfold znj;refine zaa ?_;simp only[rnA,Nat.reduceEqDiff,Nat.reduceLT,reduceCtorEq];refine EvL.yield rfl rfl rfl (hround j (i,at_,vals) L' _ [.els 1 (vals.map ((eI .i64).c true))] huj hPi ⟨rfl,rfl⟩) ?_;rintro b L2 ⟨L1,rfl,hl1,hb⟩;cases b with
 | false=>
  simp only[rnA,Nat.reduceEqDiff,Nat.reduceLT,reduceCtorEq];exact⟨[],rfl,L1,_,rfl,hl1,.inr hb⟩
 | true=>
 have hga:=zra hl1;have hsa:=zry hl1;simp only[rnA,Nat.reduceEqDiff,Nat.reduceLT,reduceCtorEq,zam,hm];refine EvL.jn (fun a:List Int×Int×Int=>⟨65,[(0,.yld β),(1,.fptr false ((eL (eI .i64)).c false cards)),(2,.fptr false ((eL (eI .i64)).c false steps)),(4,.sl n0 0 1 cards.length (some cards.length) cards.length),(5,dI i),(6,dI a.2.1),(7,dI a.2.2)],L1 ++ [.els 1 (a.1.map ((eI .i64).c true))]⟩) (fun a=>a=(vals1,at1,kk)∧a.1.length=cards.length) ?_ ?_
 ·refine zaa ?_;simp only[rnA];refine EvL.loop (α:=Nat×List Int×Int) (fun a=>⟨65,[(0,.yld β),(1,.fptr false ((eL (eI .i64)).c false cards)),(2,.fptr false ((eL (eI .i64)).c false steps)),(4,.sl n0 0 1 cards.length (some cards.length) cards.length),(5,dI i),(6,dI a.2.2),(7,dI ((a.1:Int) - 1))],L1 ++ [.els 1 (a.2.1.map ((eI .i64).c true))]⟩)
   (fun a=>znl cards steps a.1 a.2.1 a.2.2=some (vals1,at1,kk)∧a.2.1.length=cards.length∧a.1≤cards.length) (fun a=>a.1) (cards.length,vals,at_) (by refine zaV.sub ?_; exact⟨rfl,rfl,rfl,rfl,rfl,rfl,rfl,qb1⟩) ⟨hc,hvl,qae _⟩ ?_
  rintro⟨f,vs,a⟩ ⟨hf,hvs,hfl⟩;simp only at hf hvs hfl;simp only[zqH,zlX];refine zaa ?_;simp only[rnA];cases f with
  | zero=>
   cases hf;refine EvL.scope (zaa ?_);have hk:((0:Nat):Int) - 1 = -1:=rfl;simp only[rnA,Nat.reduceEqDiff,Nat.reduceLT,Int.reduceLE,reduceCtorEq,hk];exact⟨_,⟨rfl,hvs⟩,zaV.sub ⟨rfl,rfl,rfl,rfl,rfl,rfl,rfl,qb1⟩⟩
  | succ f=>
   have hk:((f+1:Nat):Int) - 1=(f:Int):=by omega
   have hk0:(0:Int)≤(f:Int):=by omega
   unfold znl at hf;obtain⟨v,q1,hf⟩:=bind_some hf;obtain⟨c,q2,hf⟩:=bind_some hf;refine EvL.scope (zaa ?_);cases hb:(v == w64 (c - 1))with
   | false=>
    rw[hb,cond_false]at hf;cases hf;simp only[rnA,Nat.reduceEqDiff,Nat.reduceLT,reduceCtorEq,hk,hk0,hga,hvs,(show(f:Int)<((cards.length:Nat):Int)from hvs ▸ zaY q1),zaB q1 ((eI .i64).c true),zak (n:=1) (e:=eI .i64) rfl q2,hb];exact⟨_,⟨rfl,hvs⟩,zaV.sub ⟨rfl,rfl,rfl,rfl,rfl,rfl,rfl,qb1⟩⟩
   | true=>
    rw[hb,cond_true]at hf;obtain⟨st,q3,hf⟩:=bind_some hf;obtain⟨vs',q4,hf⟩:=bind_some hf;have hw:IntKind.i64.wrap ((f:Int) - 1)=(f:Int) - 1:=by
     have:=zgK hsm;exact wrap64 (by omega) (by omega)
    simp only[rnA,Nat.reduceEqDiff,Nat.reduceLT,Nat.reduceLeDiff,reduceCtorEq,hk,hk0,hga,hsa,hvs,(show(f:Int)<((cards.length:Nat):Int)from hvs ▸ zaY q1),zaB q1 ((eI .i64).c true),zak (n:=1) (e:=eI .i64) rfl q2,zak (n:=1) (e:=eI .i64) rfl q3,hb,(show(vs.map ((eI .i64).c true)).set (f:Int).toNat [dI 0]=vs'.map ((eI .i64).c true)from za2 q4 ((eI .i64).c true)),hw];exact⟨(f,vs',w64 (a - w64 (v * st))),⟨hf,by rw[zaR q4]; exact hvs,by omega⟩,qa5 f,zaV.sub ⟨rfl,rfl,rfl,rfl,rfl,rfl,rfl,qb1⟩⟩
 rintro a ⟨rfl,hvs⟩;simp only at hvs;refine zaa ?_;cases hk:decide (kk<0)with
 | true=>
  rw[hk,cond_true]at hvk;simp only[rnA,Nat.reduceEqDiff,Nat.reduceLT,reduceCtorEq,hk];have h1:u.length=j+1:=by
   have h2:=qaa hvk;have h3:u.drop (j+1)=[]:=by
    rw[hur];rw[← h2]at hul;exact(qbS hul).2.symm
   have h4:=List.drop_eq_nil_iff.1 h3;omega
  exact⟨[],rfl,L1,_,rfl,hl1,.inl (by rw[h1]; exact hb)⟩
 | false=>
  rw[hk,cond_false]at hvk;obtain⟨v,q1,hvk⟩:=bind_some hvk;obtain⟨vals2,q2,hvk⟩:=bind_some hvk;obtain⟨st,q3,hvk⟩:=bind_some hvk;obtain⟨l,q4,hl⟩:=zk4 hvk;simp only[rnA,Nat.reduceEqDiff,Nat.reduceLT,Nat.reduceLeDiff,reduceCtorEq,hk,hga,hsa,hvs,za3 q1,(show kk<((cards.length:Nat):Int)from hvs ▸ zaY q1),zaB q1 ((eI .i64).c true),(show(vals1.map ((eI .i64).c true)).set kk.toNat [dI (w64 (v+1))]=vals2.map ((eI .i64).c true)from za2 q2 ((eI .i64).c true)),zak (n:=1) (e:=eI .i64) rfl q3];refine⟨(n,j+1,vals2,w64 (i+1),w64 (at1+st),L1),⟨hb,?_,by rw[zaR q2]; exact hvs⟩,qa5 n,zaV.sub ⟨rfl,rfl,rfl,rfl,rfl,rfl,qb1⟩⟩;simp only;rw[q4,hur];rw[hul]at hl;rw[(qbS hl).2]
def zbF(p0:(List Int))(p1:Int):Nat→Int→Option (Out Unit Int)
 | 0,_=>none
 | n+1,v8=>(
bif (decide (v8<(p0.length:Int)))then(
(za6 p0 v8).bind fun x2=>
bif (p1 == x2)then(
some (.ret v8))
else(
zbF p0 p1 n (w64 (v8+1))))
else(
some (.go ())))
def zcs(p0:(List Int))(p1:Int):Option Int:=
((zbF p0 p1 ((p0.length:Int) - 0+2:Int).toNat 0:Option (Out Unit Int))).bind fun o=>match o with
| .go _=>(
some (-1))
| .ret r=>some r
theorem zfa{p0:(List Int)}{p1:Int}{r:Int}(h:zcs p0 p1=some r):Lx.Fn mC 121 [(fzE false (eI .i64) p0),(dI p1)] (dI r):=by
 refine fnO (by conv=>lhs; cbv) ?_;unfold zcs at h;refine zaa ?_;try simp only[rnA,Nat.reduceEqDiff,Nat.reduceLT,Nat.reduceAdd,reduceCtorEq,zam]
 obtain⟨o1,j1,h⟩:=bind_some h;obtain⟨T1,hT1⟩:=mkT fun a:Unit=>⟨19,[],[]⟩
 refine EvL.jn T1 (fun a=>o1=.go a) ?_ ?_
 ·refine zaa ?_;simp only[rnA];obtain⟨T2,hT2⟩:=mkT fun a:Int=>⟨19,[(0,(fzE false (eI .i64) p0)),(1,(dI p1)),(7,(dI (p0.length:Int))),(8,(dI a))],[]⟩
  refine EvL.rounds (α:=Int) T2 (fun n a=>zbF p0 p1 n a=some o1) ((p0.length:Int) - 0+2:Int).toNat 0 (by rw[hT2]; exact wm0 [] (by exact trivial)) j1 (fun _ h=>nomatch (show(none:Option (Out Unit Int))=some o1 from h)) ?_;rintro n v8 j1;simp only[zbF]at j1;rw[congrFun hT2 v8];refine zaa ?_;try simp only[rnA,Nat.reduceEqDiff,Nat.reduceLT,reduceCtorEq]
  cases c1:(decide (v8<(p0.length:Int)))
  ·rw[c1,cond_false]at j1;try simp only[rnA]
   replace j1:=qaa j1; subst j1;exact lfj hT1 rfl (wm0 [] (by exact trivial))
  rw[c1,cond_true]at j1;obtain⟨x2,g3,j1⟩:=bind_some j1;try simp only[rnA,Nat.reduceEqDiff,Nat.reduceLT,reduceCtorEq,zak (n:=1) (e:=(eI .i64)) rfl g3]
  cases c4:(p1 == x2)
  ·rw[c4,cond_false]at j1;try simp only[rnA,Nat.reduceEqDiff,Nat.reduceLT,reduceCtorEq]
   exact⟨(w64 (v8+1)),j1,by rw[hT2]; exact wm0 [] (by exact trivial)⟩
  rw[c4,cond_true]at j1;try simp only[rnA,Nat.reduceEqDiff,Nat.reduceLT,reduceCtorEq]
  replace j1:=qaa j1; subst j1;dsimp only at h;replace h:=qaa h; subst h;exact za0.ret rfl (.lit _)
 rintro⟨⟩ rfl;dsimp only at h;rw[congrFun hT1 ()];refine zaa ?_;try simp only[rnA,Nat.reduceLT]
 replace h:=qaa h; subst h;exact za0.ret rfl (.lit _)
def zay(p0:S_factor_table)(p1:Int):Option Int:=
(zcs p0.factor.vars p1).bind fun r1=>
some r1
theorem zaF{p0:S_factor_table}{p1:Int}{r:Int}(h:zay p0 p1=some r):Lx.Fn mC 90 [(.agg [(fzE false (eI .i64) p0.factor.vars),(fzE false (eI .i64) p0.factor.cards),(fzE false (eI .i64) p0.factor.w),(fzE false (eI .i64) p0.steps)]),(dI p1)] (dI r):=by
 refine fnO (by conv=>lhs; cbv) ?_;unfold zay at h;refine zaa ?_;obtain⟨r1,g2,h⟩:=bind_some h;try simp only[rnA,Nat.reduceEqDiff,reduceIte,Nat.reduceLT,Nat.reduceAdd,Nat.reduceLeDiff,Nat.reduceMul,Nat.reduceSub,Int.reduceLE,Int.reduceLT,Int.reduceBEq,Nat.reduceBEq,reduceCtorEq,zeR,zcP]
 refine EvL.fn (zfa g2) rfl rfl (.cons (zad _ _ (fun h=>nomatch h)) (.cons (.lit _) .nil)) ?_;try simp only[rnA,Nat.reduceEqDiff,reduceIte,Nat.reduceLT,Nat.reduceAdd,Nat.reduceLeDiff,Nat.reduceMul,Nat.reduceSub,Int.reduceLE,Int.reduceLT,Int.reduceBEq,Nat.reduceBEq,reduceCtorEq,zeR]
 replace h:=qaa h; subst h;exact za0.ret rfl (.lit _)
def zcJ(p0:Int)(kp0:Int):Option Bool:=
some (p0 == kp0)
theorem zf1{p0:Int}{kp0:Int}{r:Bool}(h:zcJ p0 kp0=some r):Lx.Fn mC 146 [(dI p0),(.fptr false [(dI kp0)])] (dB r):=by
 refine fnO (by conv=>lhs; cbv) ?_;unfold zcJ at h;refine zaa ?_;try simp only[rnA,Nat.reduceEqDiff,reduceIte,Nat.reduceLT,Nat.reduceAdd,Nat.reduceLeDiff,Nat.reduceMul,Nat.reduceSub,Int.reduceLE,Int.reduceLT,Int.reduceBEq,Nat.reduceBEq,reduceCtorEq]
 replace h:=qaa h; subst h;exact za0.ret rfl (.lit _)
def zbo(p0:(List Int))(kp0:Int):Nat→Int→(List Int)→(List Int)→Option ((List Int)×(List Int))
 | 0,_,_,_=>none
 | n+1,v10,l0,l1=>(
bif (decide (v10<(p0.length:Int)))then(
(za6 p0 v10).bind fun x2=>
(zcJ x2 kp0).bind fun r4=>
((bif r4 then(
(ze9 8 l0 [x2]).bind fun y9=>
some (y9,l1))
else(
(ze9 8 l1 [x2]).bind fun y7=>
some (l0,y7)):Option (((List Int)×(List Int))))).bind fun o=>match o with
|(l0',l1')=>(
zbo p0 kp0 n (w64 (v10+1)) l0' l1'))
else(
some (l0,l1)))
def zb4(p0:(List Int))(kp0:Int):Option ((List Int)×(List Int)):=
((zbo p0 kp0 ((p0.length:Int) - 0+2:Int).toNat 0 [] []:Option (((List Int)×(List Int))))).bind fun o=>match o with
|(l0,l1)=>(
some (l0,l1))
theorem zeK{p0:(List Int)}{kp0:Int}{r:((List Int)×(List Int))}(h:zb4 p0 kp0=some r):Lx.Fn mC 145 [(fzE false (eI .i64) p0),(.clo 146 [] [(.fptr false [(dI kp0)])])] (.tup [(fzE true (eI .i64) r.1),(fzE true (eI .i64) r.2)]):=by
 refine fnO (by conv=>lhs; cbv) ?_;unfold zb4 at h;refine zaa ?_;try simp only[rnA,Nat.reduceEqDiff,Nat.reduceLT,Nat.reduceAdd,reduceCtorEq,zam]
 obtain⟨o5,j5,h⟩:=bind_some h;obtain⟨T5,hT5⟩:=mkT fun a:((List Int)×(List Int))=>⟨28,[(4,(.sl 0 0 1 a.1.length none a.1.length)),(5,(.sl 1 0 1 a.2.length none a.2.length))],[.grow 1 (a.1.map ((eI .i64).c true)),.grow 1 (a.2.map ((eI .i64).c true))]⟩
 refine EvL.jn T5 (fun a=>a=o5) ?_ ?_
 ·refine zaa ?_;simp only[rnA];obtain⟨T9,hT9⟩:=mkT fun a:(Int×(List Int)×(List Int))=>⟨28,[(1,(.clo 146 [] [(.fptr false [(dI kp0)])])),(4,(.sl 0 0 1 a.2.1.length none a.2.1.length)),(5,(.sl 1 0 1 a.2.2.length none a.2.2.length)),(8,(fzE false (eI .i64) p0)),(9,(dI (p0.length:Int))),(10,(dI a.1))],[.grow 1 (a.2.1.map ((eI .i64).c true)),.grow 1 (a.2.2.map ((eI .i64).c true))]⟩
  refine EvL.zeH (zaV.ghost (n:=1) (k:=4) (by decide) rfl) ?_;refine EvL.zeH (zaV.ghost (n:=1) (k:=5) (by decide) rfl) ?_;refine EvL.rounds (α:=(Int×(List Int)×(List Int))) T9 (fun n a=>zbo p0 kp0 n a.1 a.2.1 a.2.2=some o5) ((p0.length:Int) - 0+2:Int).toNat (0,[],[]) (by rw[hT9]; exact wm0 [.k,.k] ⟨MB.gs (eI .i64) true [],⟨MB.gs (eI .i64) true [],qb1⟩⟩) j5 (fun _ h=>nomatch (show(none:Option ((List Int)×(List Int)))=some o5 from h)) ?_;rintro n ⟨v10,l0,l1⟩ j5;simp only[zbo]at j5;rw[congrFun hT9 (v10,l0,l1)];refine zaa ?_;try simp only[rnA,Nat.reduceEqDiff,Nat.reduceLT]
  cases c1:(decide (v10<(p0.length:Int)))
  ·rw[c1,cond_false]at j5;try simp only[rnA]
   replace j5:=qaa j5; subst j5;exact lfj hT5 rfl (wm0 [.k,.k] ⟨MB.gs (eI .i64) true l0,⟨MB.gs (eI .i64) true l1,qb1⟩⟩)
  rw[c1,cond_true]at j5;obtain⟨x2,g3,j5⟩:=bind_some j5;obtain⟨r4,g5,j5⟩:=bind_some j5;try simp only[rnA,Nat.reduceEqDiff,Nat.reduceLT,zak (n:=1) (e:=(eI .i64)) rfl g3]
  refine EvL.fnv rfl rfl (zf1 g5) rfl (.cons (.lit _) (.cons (.fptr (fun h=>nomatch h) rfl (Snps.get (.cons (.lit _) .nil))) .nil)) ?_;try simp only[rnA,Nat.reduceLT]
  obtain⟨o10,j10,j5⟩:=bind_some j5;obtain⟨T10,hT10⟩:=mkT fun a:((List Int)×(List Int))=>⟨28,[(1,(.clo 146 [] [(.fptr false [(dI kp0)])])),(4,(.sl 0 0 1 a.1.length none a.1.length)),(5,(.sl 1 0 1 a.2.length none a.2.length)),(8,(fzE false (eI .i64) p0)),(9,(dI (p0.length:Int))),(10,(dI v10))],[.grow 1 (a.1.map ((eI .i64).c true)),.grow 1 (a.2.map ((eI .i64).c true))]⟩
  refine EvL.jn T10 (fun a=>a=o10) ?_ ?_
  ·refine zaa ?_;try simp only[rnA,Nat.reduceEqDiff]
   cases c6:r4
   ·rw[c6,cond_false]at j10;obtain⟨y7,g8,j10⟩:=bind_some j10;try simp only[rnA,Nat.reduceEqDiff,Nat.reduceLT,Nat.reduceAdd,Nat.reduceLeDiff,zcE g8,(show l1.length+1=y7.length from zbC g8),(show l1.map ((eI .i64).c true)++ [[(dI x2)]]=y7.map ((eI .i64).c true)from zcm g8 ((eI .i64).c true))]
    replace j10:=qaa j10; subst j10;exact lfj hT10 rfl (wm0 [.k,.k] ⟨MB.gs (eI .i64) true l0,⟨MB.gs (eI .i64) true y7,qb1⟩⟩)
   rw[c6,cond_true]at j10;obtain⟨y9,g10,j10⟩:=bind_some j10;try simp only[rnA,Nat.reduceEqDiff,Nat.reduceLT,Nat.reduceAdd,Nat.reduceLeDiff,zcE g10,(show l0.length+1=y9.length from zbC g10),(show l0.map ((eI .i64).c true)++ [[(dI x2)]]=y9.map ((eI .i64).c true)from zcm g10 ((eI .i64).c true))]
   replace j10:=qaa j10; subst j10;exact lfj hT10 rfl (wm0 [.k,.k] ⟨MB.gs (eI .i64) true y9,⟨MB.gs (eI .i64) true l1,qb1⟩⟩)
  rintro⟨l0',l1'⟩ rfl;dsimp only at j5;rw[congrFun hT10 (l0',l1')];refine zaa ?_;try simp only[rnA,Nat.reduceEqDiff,Nat.reduceLT]
  exact⟨((w64 (v10+1)),l0',l1'),j5,by rw[hT9]; exact wm0 [.k,.k] ⟨MB.gs (eI .i64) true l0',⟨MB.gs (eI .i64) true l1',qb1⟩⟩⟩
 rintro⟨l0,l1⟩ rfl;dsimp only at h;rw[congrFun hT5 (l0,l1)];refine zaa ?_;try simp only[rnA,Nat.reduceEqDiff,Nat.reduceLT]
 replace h:=qaa h; subst h;exact za0.ret rfl (Snp.zb7 (.cons (zaj (e:=(eI .i64)) (t:=true) rfl (.inr rfl) rfl rfl (fun k h=>nomatch h) (fun _=>rfl)) (.cons (zaj (e:=(eI .i64)) (t:=true) rfl (.inr rfl) rfl rfl (fun k h=>nomatch h) (fun _=>rfl)) .nil)))
def zdc(p0:S_api_Factor)(p1:Int):Option Bool:=
(zb4 p0.vars p1).bind fun r1=>
some (decide (0<(r1.1.length:Int)))
theorem zfr{p0:S_api_Factor}{p1:Int}{r:Bool}(h:zdc p0 p1=some r):Lx.Fn mC 126 [(.agg [(fzE false (eI .i64) p0.vars),(fzE false (eI .i64) p0.cards),(fzE false (eI .i64) p0.w)]),(dI p1)] (dB r):=by
 refine fnO (by conv=>lhs; cbv) ?_;unfold zdc at h;refine zaa ?_;obtain⟨r1,g2,h⟩:=bind_some h;try simp only[rnA,Nat.reduceEqDiff,reduceIte,Nat.reduceLT,Nat.reduceAdd,Nat.reduceLeDiff,Nat.reduceMul,Nat.reduceSub,Int.reduceLE,Int.reduceLT,Int.reduceBEq,Nat.reduceBEq,reduceCtorEq,zar,zcP]
 refine EvL.fn (zeK g2) rfl rfl (.cons (zad _ _ (fun h=>nomatch h)) (.cons (.clo rfl rfl (Snps.get .nil) (Snps.get (.cons (.ptr rfl (qac rfl) (fun k d d' h1 h2=>(Snps.get (.cons (.lit _) .nil)) k d d' (by rwa [qay]at h1) h2)) .nil))) .nil)) ?_;try simp only[rnA,Nat.reduceEqDiff,reduceIte,Nat.reduceLT,Nat.reduceAdd,Nat.reduceLeDiff,Nat.reduceMul,Nat.reduceSub,Int.reduceLE,Int.reduceLT,Int.reduceBEq,Nat.reduceBEq,reduceCtorEq,zar,zam]
 replace h:=qaa h; subst h;exact za0.ret rfl (.lit _)
def zbt(p0:S_api_Factor)(kp0:Int):Option Bool:=
(zdc p0 kp0).bind fun r1=>
some r1
theorem zdx{p0:S_api_Factor}{kp0:Int}{r:Bool}(h:zbt p0 kp0=some r):Lx.Fn mC 129 [(.agg [(fzE false (eI .i64) p0.vars),(fzE false (eI .i64) p0.cards),(fzE false (eI .i64) p0.w)]),(.fptr false [(dI kp0)])] (dB r):=by
 refine fnO (by conv=>lhs; cbv) ?_;unfold zbt at h;refine zaa ?_;obtain⟨r1,g2,h⟩:=bind_some h;try simp only[rnA,Nat.reduceEqDiff,reduceIte,Nat.reduceLT,Nat.reduceAdd,Nat.reduceLeDiff,Nat.reduceMul,Nat.reduceSub,Int.reduceLE,Int.reduceLT,Int.reduceBEq,Nat.reduceBEq,reduceCtorEq,zar,zcP]
 refine EvL.fn (zfr g2) rfl rfl (.cons (.za8 (.cons (zad _ _ (fun h=>nomatch h)) (.cons (zad _ _ (fun h=>nomatch h)) (.cons (zad _ _ (fun h=>nomatch h)) .nil)))) (.cons (.lit _) .nil)) ?_;try simp only[rnA,Nat.reduceEqDiff,reduceIte,Nat.reduceLT,Nat.reduceAdd,Nat.reduceLeDiff,Nat.reduceMul,Nat.reduceSub,Int.reduceLE,Int.reduceLT,Int.reduceBEq,Nat.reduceBEq,reduceCtorEq,zar]
 replace h:=qaa h; subst h;exact za0.ret rfl (.lit _)
def zcY(p0:(List S_api_Factor))(kp0:Int):Nat→Int→(List S_api_Factor)→(List S_api_Factor)→Option ((List S_api_Factor)×(List S_api_Factor))
 | 0,_,_,_=>none
 | n+1,v10,l0,l1=>(
bif (decide (v10<(p0.length:Int)))then(
(za6 p0 v10).bind fun x2=>
(zbt x2 kp0).bind fun r4=>
((bif r4 then(
(ze9 72 l0 [x2]).bind fun y9=>
some (y9,l1))
else(
(ze9 72 l1 [x2]).bind fun y7=>
some (l0,y7)):Option (((List S_api_Factor)×(List S_api_Factor))))).bind fun o=>match o with
|(l0',l1')=>(
zcY p0 kp0 n (w64 (v10+1)) l0' l1'))
else(
some (l0,l1)))
def zef(p0:(List S_api_Factor))(kp0:Int):Option ((List S_api_Factor)×(List S_api_Factor)):=
((zcY p0 kp0 ((p0.length:Int) - 0+2:Int).toNat 0 [] []:Option (((List S_api_Factor)×(List S_api_Factor))))).bind fun o=>match o with
|(l0,l1)=>(
some (l0,l1))
theorem zhK{p0:(List S_api_Factor)}{kp0:Int}{r:((List S_api_Factor)×(List S_api_Factor))}(h:zef p0 kp0=some r):Lx.FnT mC 128 [(fzE false zab p0),(.clo 129 [] [(.fptr false [(dI kp0)])])] [(.sl 0 0 3 r.1.length none r.1.length),(.sl 1 0 3 r.2.length none r.2.length)] [.grow 3 (r.1.map (zab.c false)),.grow 3 (r.2.map (zab.c false))]:=by
 refine ztS (by conv=>lhs; cbv) ?_;unfold zef at h;refine zaa ?_;try simp only[rnA,Nat.reduceEqDiff,Nat.reduceLT,Nat.reduceAdd,reduceCtorEq,zam]
 obtain⟨o5,j5,h⟩:=bind_some h;obtain⟨T5,hT5⟩:=mkT fun a:((List S_api_Factor)×(List S_api_Factor))=>⟨28,[(4,(.sl 0 0 3 a.1.length none a.1.length)),(5,(.sl 1 0 3 a.2.length none a.2.length))],[.grow 3 (a.1.map (zab.c false)),.grow 3 (a.2.map (zab.c false))]⟩
 refine EvL.jn T5 (fun a=>a=o5) ?_ ?_
 ·refine zaa ?_;simp only[rnA];obtain⟨T9,hT9⟩:=mkT fun a:(Int×(List S_api_Factor)×(List S_api_Factor))=>⟨28,[(1,(.clo 129 [] [(.fptr false [(dI kp0)])])),(4,(.sl 0 0 3 a.2.1.length none a.2.1.length)),(5,(.sl 1 0 3 a.2.2.length none a.2.2.length)),(8,(fzE false zab p0)),(9,(dI (p0.length:Int))),(10,(dI a.1))],[.grow 3 (a.2.1.map (zab.c false)),.grow 3 (a.2.2.map (zab.c false))]⟩
  refine EvL.zeH (zaV.ghost (n:=3) (k:=4) (by decide) rfl) ?_;refine EvL.zeH (zaV.ghost (n:=3) (k:=5) (by decide) rfl) ?_;refine EvL.rounds (α:=(Int×(List S_api_Factor)×(List S_api_Factor))) T9 (fun n a=>zcY p0 kp0 n a.1 a.2.1 a.2.2=some o5) ((p0.length:Int) - 0+2:Int).toNat (0,[],[]) (by rw[hT9]; exact wm0 [.k,.k] ⟨MB.gs zab false [],⟨MB.gs zab false [],qb1⟩⟩) j5 (fun _ h=>nomatch (show(none:Option ((List S_api_Factor)×(List S_api_Factor)))=some o5 from h)) ?_;rintro n ⟨v10,l0,l1⟩ j5;simp only[zcY]at j5;rw[congrFun hT9 (v10,l0,l1)];refine zaa ?_;try simp only[rnA,Nat.reduceEqDiff,Nat.reduceLT]
  cases c1:(decide (v10<(p0.length:Int)))
  ·rw[c1,cond_false]at j5;try simp only[rnA]
   replace j5:=qaa j5; subst j5;exact lfj hT5 rfl (wm0 [.k,.k] ⟨MB.gs zab false l0,⟨MB.gs zab false l1,qb1⟩⟩)
  rw[c1,cond_true]at j5;obtain⟨x2,g3,j5⟩:=bind_some j5;obtain⟨r4,g5,j5⟩:=bind_some j5;try simp only[rnA,Nat.reduceEqDiff,Nat.reduceLT,Nat.reduceAdd,Nat.reduceLeDiff,zar,zak (n:=3) (e:=zab) rfl g3]
  refine EvL.fnv rfl rfl (zdx g5) rfl (.cons (.za8 (.cons (zad _ _ (fun h=>nomatch h)) (.cons (zad _ _ (fun h=>nomatch h)) (.cons (zad _ _ (fun h=>nomatch h)) .nil)))) (.cons (.fptr (fun h=>nomatch h) rfl (Snps.get (.cons (.lit _) .nil))) .nil)) ?_;try simp only[rnA,Nat.reduceLT]
  obtain⟨o10,j10,j5⟩:=bind_some j5;obtain⟨T10,hT10⟩:=mkT fun a:((List S_api_Factor)×(List S_api_Factor))=>⟨28,[(1,(.clo 129 [] [(.fptr false [(dI kp0)])])),(4,(.sl 0 0 3 a.1.length none a.1.length)),(5,(.sl 1 0 3 a.2.length none a.2.length)),(8,(fzE false zab p0)),(9,(dI (p0.length:Int))),(10,(dI v10))],[.grow 3 (a.1.map (zab.c false)),.grow 3 (a.2.map (zab.c false))]⟩
  refine EvL.jn T10 (fun a=>a=o10) ?_ ?_
  ·refine zaa ?_;try simp only[rnA,Nat.reduceEqDiff]
   cases c6:r4
   ·rw[c6,cond_false]at j10;obtain⟨y7,g8,j10⟩:=bind_some j10;try simp only[rnA,Nat.reduceEqDiff,Nat.reduceLT,Nat.reduceAdd,Nat.reduceLeDiff,zcE g8,(show l1.length+1=y7.length from zbC g8),(show l1.map (zab.c false)++ [[(fzE false (eI .i64) x2.vars),(fzE false (eI .i64) x2.cards),(fzE false (eI .i64) x2.w)]]=y7.map (zab.c false)from zcm g8 (zab.c false))]
    replace j10:=qaa j10; subst j10;exact lfj hT10 rfl (wm0 [.k,.k] ⟨MB.gs zab false l0,⟨MB.gs zab false y7,qb1⟩⟩)
   rw[c6,cond_true]at j10;obtain⟨y9,g10,j10⟩:=bind_some j10;try simp only[rnA,Nat.reduceEqDiff,Nat.reduceLT,Nat.reduceAdd,Nat.reduceLeDiff,zcE g10,(show l0.length+1=y9.length from zbC g10),(show l0.map (zab.c false)++ [[(fzE false (eI .i64) x2.vars),(fzE false (eI .i64) x2.cards),(fzE false (eI .i64) x2.w)]]=y9.map (zab.c false)from zcm g10 (zab.c false))]
   replace j10:=qaa j10; subst j10;exact lfj hT10 rfl (wm0 [.k,.k] ⟨MB.gs zab false y9,⟨MB.gs zab false l1,qb1⟩⟩)
  rintro⟨l0',l1'⟩ rfl;dsimp only at j5;rw[congrFun hT10 (l0',l1')];refine zaa ?_;try simp only[rnA,Nat.reduceEqDiff,Nat.reduceLT]
  exact⟨((w64 (v10+1)),l0',l1'),j5,by rw[hT9]; exact wm0 [.k,.k] ⟨MB.gs zab false l0',⟨MB.gs zab false l1',qb1⟩⟩⟩
 rintro⟨l0,l1⟩ rfl;dsimp only at h;rw[congrFun hT5 (l0,l1)];refine zaa ?_;try simp only[rnA,Nat.reduceEqDiff,Nat.reduceLT]
 replace h:=qaa h; subst h;exact zq0.ret (⟨28,[(4,(.sl 0 0 3 l0.length none l0.length)),(5,(.sl 1 0 3 l1.length none l1.length))],[.grow 3 (l0.map (zab.c false)),.grow 3 (l1.map (zab.c false))]⟩) (wm0 [.k,.k] ⟨MB.gs zab false l0,⟨MB.gs zab false l1,qb1⟩⟩) rfl rfl
def zdj(p0:S_factor_table)(p1:S_factor_table):Nat→Int→Option (Out Unit Bool)
 | 0,_=>none
 | n+1,v12=>(
bif (decide (v12<(p0.factor.vars.length:Int)))then(
(za6 p0.factor.vars v12).bind fun x2=>
(zay p1 x2).bind fun r4=>
((bif (decide (0≤r4))then(
(za6 p1.factor.cards r4).bind fun x7=>
(za6 p0.factor.cards v12).bind fun x9=>
some (!(x7 == x9)))
else(
some false):Option Bool)).bind fun v36=>
bif v36 then(
some (.ret false))
else(
zdj p0 p1 n (w64 (v12+1))))
else(
some (.go ())))
def zeN(p0:S_factor_table)(p1:S_factor_table):Option Bool:=
((zdj p0 p1 ((p0.factor.vars.length:Int) - 0+2:Int).toNat 0:Option (Out Unit Bool))).bind fun o=>match o with
| .go _=>(
some true)
| .ret r=>some r
def zgo:C:=
 .seq (rg [oW 2 0,
 oW 3 1,
 oJ 4 false])
 (.seq (.seq (rg [oF 8 0 2,
 oF 9 0 8,
 oL 10 9,
 oE 11 10,
 oK 12 0])
 (.scope (.block 0 (.loop (.seq (rg [oB 13 .lss 12 11])
 (.seq (.cond (.s 13) (.skip)
 (.exit 0))
 (.seq (.block 1 (.seq (rg [oM 14 12,
 oI 15 1 10 12,
 oL 16 15,
 oM 5 14,
 oM 6 16])
 (.seq (rg [oN 17 4 3,
 oM 18 6,
 oV 19 90 17 18,
 oM 7 19])
 (.seq (.scope (.reg true false [oM 20 7,
 oD 21 .geq 20 0,
 oM 22 21,
 oFg 23 0 3 22 true,
 oFg 24 1 23 22 true,
 oLg 25 24 22 true,
 oMg 26 7 22 true,
 ⟨some 27,.idxS 1 (.s 25) (.s 26),some (22,true)⟩,
 oLg 28 27 22 true,
 oFg 29 0 2 22 true,
 oFg 30 1 29 22 true,
 oLg 31 30 22 true,
 oMg 32 5 22 true,
 ⟨some 33,.idxS 1 (.s 31) (.s 32),some (22,true)⟩,
 oLg 34 33 22 true,
 ⟨some 35,.bin .neq (.s 28) (.s 34),some (22,true)⟩,
 ⟨some 36,.pick (.s 22) (.s 35) (.c (.bool false)),none⟩]))
 (.cond (.s 36) (.seq (rg [oJ 4 false])
 (.ret))
 (.skip))))))
 (rg [oD 37 .add 12 1,
 oM 12 37]))))))))
 (.seq (rg [oJ 4 true])
 (.ret)))
theorem zhQ:zhM mC 81=some (38,zgo,[.tmp 4],false):=zbs (by kernel_rfl)
theorem ziP{p0:S_factor_table}{p1:S_factor_table}{r:Bool}(h:zeN p0 p1=some r):Lx.Fn mC 81 [(.agg [(fzE false (eI .i64) p0.factor.vars),(fzE false (eI .i64) p0.factor.cards),(fzE false (eI .i64) p0.factor.w),(fzE false (eI .i64) p0.steps)]),(.agg [(fzE false (eI .i64) p1.factor.vars),(fzE false (eI .i64) p1.factor.cards),(fzE false (eI .i64) p1.factor.w),(fzE false (eI .i64) p1.steps)])] (dB r):=by
 refine Fn.of zhQ (zaZ rfl) (qac rfl) ?_;unfold zeN at h;simp only[zgo,zlX];refine zaa ?_;try simp only[rnA,Nat.reduceEqDiff,Nat.reduceLT,Nat.reduceAdd,reduceCtorEq,zam]
 obtain⟨o4,j4,h⟩:=bind_some h;obtain⟨T4,hT4⟩:=mkT fun a:Unit=>⟨38,[],[]⟩
 refine EvL.jn T4 (fun a=>o4=.go a) ?_ ?_
 ·refine zaa ?_;simp only[rnA];obtain⟨T7,hT7⟩:=mkT fun a:Int=>⟨38,[(2,(.ptr 0 0)),(3,(.ptr 1 0)),(10,(fzE false (eI .i64) p0.factor.vars)),(11,(dI (p0.factor.vars.length:Int))),(12,(dI a))],[.cells [(fzE false (eI .i64) p0.factor.vars),(fzE false (eI .i64) p0.factor.cards),(fzE false (eI .i64) p0.factor.w),(fzE false (eI .i64) p0.steps)],.cells [(fzE false (eI .i64) p1.factor.vars),(fzE false (eI .i64) p1.factor.cards),(fzE false (eI .i64) p1.factor.w),(fzE false (eI .i64) p1.steps)]]⟩
  refine EvL.rounds (α:=Int) T7 (fun n a=>zdj p0 p1 n a=some o4) ((p0.factor.vars.length:Int) - 0+2:Int).toNat 0 (by rw[hT7]; exact wm0 [.k,.k] ⟨MB.cs ⟨qb1,qb1,qb1,qb1,qb1⟩,⟨MB.cs ⟨qb1,qb1,qb1,qb1,qb1⟩,qb1⟩⟩) j4 (fun _ h=>nomatch (show(none:Option (Out Unit Bool))=some o4 from h)) ?_;rintro n v12 j4;simp only[zdj]at j4;rw[congrFun hT7 v12];refine zaa ?_;try simp only[rnA,Nat.reduceEqDiff,Nat.reduceLT]
  cases c1:(decide (v12<(p0.factor.vars.length:Int)))
  ·rw[c1,cond_false]at j4;try simp only[rnA]
   replace j4:=qaa j4; subst j4;exact lfj hT4 rfl (wm0 [] (by exact trivial))
  rw[c1,cond_true]at j4;obtain⟨x2,g3,j4⟩:=bind_some j4;obtain⟨r4,g5,j4⟩:=bind_some j4;try simp only[rnA,Nat.reduceEqDiff,Nat.reduceLT,Nat.reduceAdd,Nat.reduceLeDiff,zak (n:=1) (e:=(eI .i64)) rfl g3]
  refine EvL.fn (zaF g5) rfl rfl (.cons (.za8 (.cons (zad _ _ (fun h=>nomatch h)) (.cons (zad _ _ (fun h=>nomatch h)) (.cons (zad _ _ (fun h=>nomatch h)) (.cons (zad _ _ (fun h=>nomatch h)) .nil))))) (.cons (.lit _) .nil)) ?_;try simp only[rnA,Nat.reduceEqDiff,Nat.reduceLT]
  obtain⟨o8,j8,j4⟩:=bind_some j4;obtain⟨T8,hT8⟩:=mkT fun a:Bool=>⟨38,[(2,(.ptr 0 0)),(3,(.ptr 1 0)),(10,(fzE false (eI .i64) p0.factor.vars)),(11,(dI (p0.factor.vars.length:Int))),(12,(dI v12)),(36,(dB a))],[.cells [(fzE false (eI .i64) p0.factor.vars),(fzE false (eI .i64) p0.factor.cards),(fzE false (eI .i64) p0.factor.w),(fzE false (eI .i64) p0.steps)],.cells [(fzE false (eI .i64) p1.factor.vars),(fzE false (eI .i64) p1.factor.cards),(fzE false (eI .i64) p1.factor.w),(fzE false (eI .i64) p1.steps)]]⟩
  refine EvL.jn T8 (fun a=>a=o8) ?_ ?_
  ·refine zaa ?_;try simp only[rnA,Nat.reduceEqDiff,Nat.reduceLT]
   cases c6:(decide (0≤r4))
   ·rw[c6,cond_false]at j8;try simp only[rnA,Nat.reduceEqDiff,Nat.reduceLT]
    replace j8:=qaa j8; subst j8;exact lfj hT8 rfl (wm0 [.k,.k] ⟨MB.cs ⟨qb1,qb1,qb1,qb1,qb1⟩,⟨MB.cs ⟨qb1,qb1,qb1,qb1,qb1⟩,qb1⟩⟩)
   rw[c6,cond_true]at j8;obtain⟨x7,g8,j8⟩:=bind_some j8;obtain⟨x9,g10,j8⟩:=bind_some j8;try simp only[rnA,Nat.reduceEqDiff,Nat.reduceLT,zak (n:=1) (e:=(eI .i64)) rfl g8,zak (n:=1) (e:=(eI .i64)) rfl g10]
   replace j8:=qaa j8; subst j8;exact lfj hT8 rfl (wm0 [.k,.k] ⟨MB.cs ⟨qb1,qb1,qb1,qb1,qb1⟩,⟨MB.cs ⟨qb1,qb1,qb1,qb1,qb1⟩,qb1⟩⟩)
  rintro v36 rfl;rw[congrFun hT8 v36];refine zaa ?_;try simp only[rnA,Nat.reduceEqDiff]
  cases c11:v36
  ·rw[c11,cond_false]at j4;try simp only[rnA,Nat.reduceEqDiff,Nat.reduceLT]
   exact⟨(w64 (v12+1)),j4,by rw[hT7]; exact wm0 [.k,.k] ⟨MB.cs ⟨qb1,qb1,qb1,qb1,qb1⟩,⟨MB.cs ⟨qb1,qb1,qb1,qb1,qb1⟩,qb1⟩⟩⟩
  rw[c11,cond_true]at j4;try simp only[rnA,Nat.reduceLT]
  replace j4:=qaa j4; subst j4;dsimp only at h;replace h:=qaa h; subst h;exact za0.ret rfl (.lit _)
 rintro⟨⟩ rfl;dsimp only at h;rw[congrFun hT4 ()];refine zaa ?_;try simp only[rnA,Nat.reduceLT]
 replace h:=qaa h; subst h;exact za0.ret rfl (.lit _)
def zdm(y7:(List Int))(p0:S_factor_table)(p1:S_factor_table):Nat→Int→(List Int)→Option (List Int)
 | 0,_,_=>none
 | n+1,v26,l2=>(
bif (decide (v26<(y7.length:Int)))then(
(za6 y7 v26).bind fun x12=>
(zay p0 x12).bind fun r14=>
((bif (decide (0≤r14))then(
(za6 p0.factor.cards r14).bind fun x25=>
(za6 l2 v26).bind fun x27=>
(zgN l2 v26 x25).bind fun y29=>
some y29)
else(
(zay p1 x12).bind fun r17=>
(za6 p1.factor.cards r17).bind fun x19=>
(za6 l2 v26).bind fun x21=>
(zgN l2 v26 x19).bind fun y23=>
some y23):Option (List Int))).bind fun l2'=>
zdm y7 p0 p1 n (w64 (v26+1)) l2')
else(
some l2))
def zeL(p0:S_factor_table)(p1:S_factor_table):Option ((List Int)×(List Int)):=
(zeY 8 p0.factor.vars).bind fun y1=>
(ze9 8 y1 p1.factor.vars).bind fun y3=>
(zn7 8 y3).bind fun y5=>
(zrZ y5).bind fun y7=>
(zeO 8 (y7.length:Int) 0).bind fun y9=>
((zdm y7 p0 p1 ((y7.length:Int) - 0+2:Int).toNat 0 y9:Option (List Int))).bind fun l2=>
some (y7,l2)
def zgm:C:=
 .seq (rg [oW 2 0,
 oW 3 1,
 ⟨some 4,.mov (.c (.slice none 0 0)),none⟩,
 ⟨some 5,.mov (.c (.slice none 0 0)),none⟩])
 (.seq (.reg true false [oF 9 0 2,
 oF 10 0 9,
 oL 11 10,
 oF 13 0 3,
 oF 14 0 13,
 oL 15 14,
 oU 12 25 11,
 oT 16 1 8 12 15,
 oM 4 16])
 (.seq (rg [oM 17 4,
 oU 18 117 17])
 (.seq (rg [oM 19 4,
 oU 20 118 19,
 oM 4 20])
 (.seq (rg [oM 21 4,
 oE 22 21,
 ⟨some 23,.mk 1 8 [(.int .i64 0)] (.s 22) (.s 22),none⟩,
 oM 5 23])
 (.seq (.seq (rg [oM 24 4,
 oE 25 24,
 oK 26 0])
 (.scope (.block 0 (.loop (.seq (rg [oB 27 .lss 26 25])
 (.seq (.cond (.s 27) (.skip)
 (.exit 0))
 (.seq (.block 1 (.seq (rg [oM 28 26,
 oI 29 1 24 26,
 oL 30 29,
 oM 6 28,
 oM 7 30])
 (.seq (rg [oN 31 4 2,
 oM 32 7,
 oV 33 90 31 32,
 oM 8 33])
 (.seq (rg [oM 34 8,
 oD 35 .geq 34 0])
 (.scope (.cond (.s 35) (rg [oM 36 5,
 oM 37 6,
 oF 38 0 2,
 oF 39 1 38,
 oL 40 39,
 oM 41 8,
 oI 42 1 40 41,
 oL 43 42,
 oI 44 1 36 37,
 oS 1 44 43])
 (.reg true true [oM 45 5,
 oM 46 6,
 oF 47 0 3,
 oF 48 1 47,
 oL 49 48,
 oN 50 4 3,
 oM 51 7,
 oV 52 90 50 51,
 oI 53 1 49 52,
 oL 54 53,
 oI 55 1 45 46,
 oS 1 55 54])))))))
 (rg [oD 56 .add 26 1,
 oM 26 56]))))))))
 (.seq (rg [oM 57 4,
 oM 58 5,
 oM 4 57,
 oM 5 58])
 (.ret)))))))
theorem zhJ:zhM mC 82=some (59,zgm,[.tmp 4,.tmp 5],false):=zbs (by kernel_rfl)
theorem zh4{p0:S_factor_table}{p1:S_factor_table}{r:((List Int)×(List Int))}(h:zeL p0 p1=some r):Lx.Fn mC 82 [(.agg [(fzE false (eI .i64) p0.factor.vars),(fzE false (eI .i64) p0.factor.cards),(fzE false (eI .i64) p0.factor.w),(fzE false (eI .i64) p0.steps)]),(.agg [(fzE false (eI .i64) p1.factor.vars),(fzE false (eI .i64) p1.factor.cards),(fzE false (eI .i64) p1.factor.w),(fzE false (eI .i64) p1.steps)])] (.tup [(fzE true (eI .i64) r.1),(fzE true (eI .i64) r.2)]):=by
 refine Fn.of zhJ (zaZ rfl) (qac rfl) ?_;unfold zeL at h;simp only[zgm,zlX];refine zaa ?_;obtain⟨y1,g2,h⟩:=bind_some h;try simp only[rnA,Nat.reduceEqDiff,Nat.reduceLT,Nat.reduceAdd,reduceCtorEq]
 refine EvL.clone (t:=false) (zs:=p0.factor.vars) g2 rfl rfl ?_;obtain⟨y3,g4,h⟩:=bind_some h;obtain⟨y5,g6,h⟩:=bind_some h;try simp only[rnA,Nat.reduceEqDiff,Nat.reduceLT,Nat.reduceAdd,reduceCtorEq,(show ∀ L,zku L 1 (fzE false (eI .i64) p1.factor.vars)=some (p1.factor.vars.map ((eI .i64).c true))from fun L=>ziX (e:=(eI .i64)) rfl _ L false),zcE g4,(show y1.length+p1.factor.vars.length=y3.length from zbC g4),(show y1.map ((eI .i64).c true)++ p1.factor.vars.map ((eI .i64).c true)=y3.map ((eI .i64).c true)from zcm g4 ((eI .i64).c true))]
 refine EvL.sort (zs:=y3) (t:=true) g6 rfl rfl rfl rfl rfl ?_;obtain⟨y7,g8,h⟩:=bind_some h;try simp only[rnA,Nat.reduceEqDiff,Nat.reduceLT,reduceCtorEq]
 refine EvL.compact (zs:=y5) (t:=true) g8 rfl rfl rfl (((zln g6).trans rfl)).symm (((zln g6).trans rfl)).symm rfl ?_;refine EvL.zeH (S':=⟨59,[(2,(.ptr 0 0)),(3,(.ptr 1 0)),(20,(fzE true (eI .i64) y7))],[.cells [(fzE false (eI .i64) p0.factor.vars),(fzE false (eI .i64) p0.factor.cards),(fzE false (eI .i64) p0.factor.w),(fzE false (eI .i64) p0.steps)],.cells [(fzE false (eI .i64) p1.factor.vars),(fzE false (eI .i64) p1.factor.cards),(fzE false (eI .i64) p1.factor.w),(fzE false (eI .i64) p1.steps)]]⟩) (zaV.m0 [.k,.k,.f] rfl (msq (msq (mf rfl (zkv (xs:=y5) (ys:=y7) (t:=true) (zrp g8) rfl rfl rfl (fun _=>rfl)) trivial))) ⟨MB.cs ⟨qb1,qb1,qb1,qb1,qb1⟩,⟨MB.cs ⟨qb1,qb1,qb1,qb1,qb1⟩,qb1⟩⟩) (zaa ?_);obtain⟨y9,g10,h⟩:=bind_some h;try simp only[rnA,Nat.reduceEqDiff,Nat.reduceLT,Nat.reduceAdd,zam,(zau g10).1.1,(zau g10).1.2,qa1,(show List.replicate (Int.toNat (y7.length:Int)) [(dI 0)]=y9.map ((eI .i64).c true)from zbD g10 ((eI .i64).c true))]
 obtain⟨o4,j4,h⟩:=bind_some h;obtain⟨T4,hT4⟩:=mkT fun a:(List Int)=>⟨59,[(4,(fzE true (eI .i64) y7)),(5,(.sl 2 0 1 (Int.toNat (y7.length:Int)) (some (Int.toNat (y7.length:Int))) (Int.toNat (y7.length:Int))))],[.gone,.gone,.els 1 (a.map ((eI .i64).c true))]⟩
 refine EvL.jn T4 (fun a=>a=o4∧a.length=(Int.toNat (y7.length:Int))) ?_ ?_
 ·refine zaa ?_;simp only[rnA];obtain⟨T7,hT7⟩:=mkT fun a:(Int×(List Int))=>⟨59,[(2,(.ptr 0 0)),(3,(.ptr 1 0)),(4,(fzE true (eI .i64) y7)),(5,(.sl 2 0 1 (Int.toNat (y7.length:Int)) (some (Int.toNat (y7.length:Int))) (Int.toNat (y7.length:Int)))),(24,(fzE true (eI .i64) y7)),(25,(dI (y7.length:Int))),(26,(dI a.1))],[.cells [(fzE false (eI .i64) p0.factor.vars),(fzE false (eI .i64) p0.factor.cards),(fzE false (eI .i64) p0.factor.w),(fzE false (eI .i64) p0.steps)],.cells [(fzE false (eI .i64) p1.factor.vars),(fzE false (eI .i64) p1.factor.cards),(fzE false (eI .i64) p1.factor.w),(fzE false (eI .i64) p1.steps)],.els 1 (a.2.map ((eI .i64).c true))]⟩
  refine EvL.rounds (α:=(Int×(List Int))) T7 (fun n a=>zdm y7 p0 p1 n a.1 a.2=some o4∧a.2.length=(Int.toNat (y7.length:Int))) ((y7.length:Int) - 0+2:Int).toNat (0,y9) (by rw[hT7]; exact wm0 [.k,.k,.k] ⟨MB.cs ⟨qb1,qb1,qb1,qb1,qb1⟩,⟨MB.cs ⟨qb1,qb1,qb1,qb1,qb1⟩,⟨MB.es (eI .i64) true y9,qb1⟩⟩⟩) ⟨j4,zaN g10⟩ (fun _ h=>nomatch (show(none:Option (List Int))=some o4 from h.1)) ?_;rintro n ⟨v26,l2⟩ ⟨j4,el2⟩;simp only[zdm]at j4;rw[congrFun hT7 (v26,l2)];refine zaa ?_;try simp only[rnA,Nat.reduceEqDiff,Nat.reduceLT]
  cases c11:(decide (v26<(y7.length:Int)))
  ·rw[c11,cond_false]at j4;try simp only[rnA]
   replace j4:=qaa j4; subst j4;exact⟨_,⟨rfl,el2⟩,by rw[hT4]; exact wm0 [.d,.d,.k] ⟨rfl,⟨rfl,⟨MB.es (eI .i64) true l2,qb1⟩⟩⟩⟩
  rw[c11,cond_true]at j4;obtain⟨x12,g13,j4⟩:=bind_some j4;obtain⟨r14,g15,j4⟩:=bind_some j4;try simp only[rnA,Nat.reduceEqDiff,Nat.reduceLT,Nat.reduceAdd,Nat.reduceLeDiff,zak (n:=1) (e:=(eI .i64)) rfl g13]
  refine EvL.fn (zaF g15) rfl rfl (.cons (.za8 (.cons (zad _ _ (fun h=>nomatch h)) (.cons (zad _ _ (fun h=>nomatch h)) (.cons (zad _ _ (fun h=>nomatch h)) (.cons (zad _ _ (fun h=>nomatch h)) .nil))))) (.cons (.lit _) .nil)) ?_;try simp only[rnA,Nat.reduceEqDiff,Nat.reduceLT]
  obtain⟨o8,j8,j4⟩:=bind_some j4;obtain⟨T8,hT8⟩:=mkT fun a:(List Int)=>⟨59,[(2,(.ptr 0 0)),(3,(.ptr 1 0)),(4,(fzE true (eI .i64) y7)),(5,(.sl 2 0 1 (Int.toNat (y7.length:Int)) (some (Int.toNat (y7.length:Int))) (Int.toNat (y7.length:Int)))),(24,(fzE true (eI .i64) y7)),(25,(dI (y7.length:Int))),(26,(dI v26))],[.cells [(fzE false (eI .i64) p0.factor.vars),(fzE false (eI .i64) p0.factor.cards),(fzE false (eI .i64) p0.factor.w),(fzE false (eI .i64) p0.steps)],.cells [(fzE false (eI .i64) p1.factor.vars),(fzE false (eI .i64) p1.factor.cards),(fzE false (eI .i64) p1.factor.w),(fzE false (eI .i64) p1.steps)],.els 1 (a.map ((eI .i64).c true))]⟩
  refine EvL.jn T8 (fun a=>a=o8∧a.length=(Int.toNat (y7.length:Int))) ?_ ?_
  ·refine zaa ?_;try simp only[rnA,Nat.reduceEqDiff]
   cases c16:(decide (0≤r14))
   ·rw[c16,cond_false]at j8;obtain⟨r17,g18,j8⟩:=bind_some j8;try simp only[rnA,Nat.reduceEqDiff,Nat.reduceLT,Nat.reduceAdd,Nat.reduceLeDiff]
    refine EvL.fn (zaF g18) rfl rfl (.cons (.za8 (.cons (zad _ _ (fun h=>nomatch h)) (.cons (zad _ _ (fun h=>nomatch h)) (.cons (zad _ _ (fun h=>nomatch h)) (.cons (zad _ _ (fun h=>nomatch h)) .nil))))) (.cons (.lit _) .nil)) ?_;obtain⟨x19,g20,j8⟩:=bind_some j8;obtain⟨x21,g22,j8⟩:=bind_some j8;obtain⟨y23,g24,j8⟩:=bind_some j8;try simp only[rnA,Nat.reduceEqDiff,Nat.reduceLT,Nat.reduceLeDiff,zak (n:=1) (e:=(eI .i64)) rfl g20,el2,za3 g22,(show v26<(((Int.toNat (y7.length:Int)):Nat):Int)from el2 ▸ zaY g22),zaB g22 ((eI .i64).c true),(show(l2.map ((eI .i64).c true)).set v26.toNat [(dI x19)]=y23.map ((eI .i64).c true)from za2 g24 ((eI .i64).c true))]
    replace j8:=qaa j8; subst j8;exact⟨_,⟨rfl,(zaR g24).trans el2⟩,by rw[hT8]; exact wm0 [.k,.k,.k] ⟨MB.cs ⟨qb1,qb1,qb1,qb1,qb1⟩,⟨MB.cs ⟨qb1,qb1,qb1,qb1,qb1⟩,⟨MB.es (eI .i64) true y23,qb1⟩⟩⟩⟩
   rw[c16,cond_true]at j8;obtain⟨x25,g26,j8⟩:=bind_some j8;obtain⟨x27,g28,j8⟩:=bind_some j8;obtain⟨y29,g30,j8⟩:=bind_some j8;try simp only[rnA,Nat.reduceEqDiff,Nat.reduceLT,Nat.reduceLeDiff,zak (n:=1) (e:=(eI .i64)) rfl g26,el2,za3 g28,(show v26<(((Int.toNat (y7.length:Int)):Nat):Int)from el2 ▸ zaY g28),zaB g28 ((eI .i64).c true),(show(l2.map ((eI .i64).c true)).set v26.toNat [(dI x25)]=y29.map ((eI .i64).c true)from za2 g30 ((eI .i64).c true))]
   replace j8:=qaa j8; subst j8;exact⟨_,⟨rfl,(zaR g30).trans el2⟩,by rw[hT8]; exact wm0 [.k,.k,.k] ⟨MB.cs ⟨qb1,qb1,qb1,qb1,qb1⟩,⟨MB.cs ⟨qb1,qb1,qb1,qb1,qb1⟩,⟨MB.es (eI .i64) true y29,qb1⟩⟩⟩⟩
  rintro l2' ⟨rfl,el2'⟩;rw[congrFun hT8 l2'];refine zaa ?_;try simp only[rnA,Nat.reduceEqDiff,Nat.reduceLT]
  exact⟨((w64 (v26+1)),l2'),⟨j4,el2'⟩,by rw[hT7]; exact wm0 [.k,.k,.k] ⟨MB.cs ⟨qb1,qb1,qb1,qb1,qb1⟩,⟨MB.cs ⟨qb1,qb1,qb1,qb1,qb1⟩,⟨MB.es (eI .i64) true l2',qb1⟩⟩⟩⟩
 rintro l2 ⟨rfl,el2⟩;rw[congrFun hT4 l2];refine zaa ?_;try simp only[rnA,Nat.reduceEqDiff,Nat.reduceLT]
 replace h:=qaa h; subst h;exact za0.ret rfl (Snp.zb7 (.cons (zad _ _ (fun _=>rfl)) (.cons (zaj (e:=(eI .i64)) (t:=true) rfl (.inl rfl) (el2).symm (el2).symm (fun k h=>by cases h; exact qae _) (fun _=>rfl)) .nil)))
abbrev gdN:Nat:=139
abbrev gdD:Nat:=163
def ztN:C:=
 .seq (.reg false false [⟨some 2,.alloc [(.int .i64 0),(.int .i64 0)],none⟩,
 ⟨some 3,.alloc [(.int .i64 0)],none⟩])
 (.seq (.reg false false [⟨some 4,.clo gdD [] [(.s 2),(.s 3)],none⟩,
 ⟨none,.defer (.s 4) [],none⟩])
 (.seq (.reg false false [⟨some 5,.mov (.s 0),none⟩,
 ⟨some 6,.zdW (.s 5) [],none⟩,
 ⟨none,.store 2 (.s 2) (.s 6),none⟩,
 ⟨none,.store 1 (.s 3) (.c (.int .i64 0)),none⟩])
 (.ret)))
def zsw:C:=
 .seq (.reg false false [⟨some 3,.recover,none⟩,
 ⟨some 4,.eqi true (.s 3),none⟩])
 (.cond (.s 4) (.seq (.reg false false [⟨some 2,.alloc [(.int .i64 0),(.int .i64 0)],none⟩])
 (.reg false false [⟨some 5,.load (some 2) (.s 2),none⟩,
 ⟨none,.store 2 (.s 0) (.s 5),none⟩,
 ⟨none,.store 1 (.s 1) (.c (.int .i64 6)),none⟩]))
 (.skip))
def zqp:Mx.Fn:=⟨7,ztN,[.cell 2 (some 2),.cell 3 none],false⟩
def zon:Mx.Fn:=⟨6,zsw,[],false⟩
theorem zsf:mC.fns gdN=some zqp:=by
 have h:zhS Try.prog gdN=some zqp:=by
  rw[← ziz]
  kernel_rfl
 exact h
theorem zsC:mC.fns gdD=some zon:=by
 have h:zhS Try.prog gdD=some zon:=by
  rw[← ziz]
  kernel_rfl
 exact h
theorem zsd:mC.has gdN zqp:=⟨zsf,zaZ rfl⟩
theorem zp5(n B a b:Nat)(h:zas):(mC.run (n+1)).dcall B gdD [.ptr a 0,.ptr b 0] none h=some (none,h):=by
 show zlf (mC.run n) mC.fns B gdD [.ptr a 0,.ptr b 0] none h=_;unfold zlf;rw[zsC];have e:Nat.ble 2 6=true:=rfl;simp[zon,zsw,zfA,exec,zmK,isRec,zno,wanted,St.put,zan,q,ev,evB,zcS,zbe,List.replicate,e]
abbrev lI(n:Int):V:=.lit (.int .i64 n)
theorem zr2{B:Nat}{h:zas}{f:Nat}{ws:List V}{a b:Int}{Q:CR→zas→Prop}(hB:B≤h.length)
  (hc:EvF mC B f ws (h ++ [.blk [lI 0,lI 0]]++ [.blk [lI 0]]) fun cr H'=>cr=.ret (.agg [lI a,lI b])∧H'[h.length]? = some (.blk [lI 0,lI 0])∧H'[h.length+1]? = some (.blk [lI 0])∧
   Q (.ret (.tup [.agg [lI a,lI b],lI 0])) ((H'.set h.length (.blk [lI a,lI b])).set (h.length+1) (.blk [lI 0]))):EvF mC B gdN [.clo f [] ws] h Q:=by
 obtain⟨N,cr,H',h1,rfl,h2,h3,h4⟩:=hc;have hb1:zaP H' h.length=some [lI 0,lI 0]:=by simp[zaP,h2]
 have hl1:h.length<H'.length:=(qab.1 h2).1;have hl2:h.length+1<H'.length:=(qab.1 h3).1;have hb2:zaP (H'.set h.length (.blk [lI a,lI b])) (h.length+1)=some [lI 0]:=by simp[zaP,h3]
 have hb3:zaP ((H'.set h.length (.blk [lI a,lI b])).set (h.length+1) (.blk [lI 0])) h.length=some [lI a,lI b]:=by simp[zaP,hl1]
 have hb4:zaP ((H'.set h.length (.blk [lI a,lI b])).set (h.length+1) (.blk [lI 0])) (h.length+1)=some [lI 0]:=by simp[zaP,hl2]
 have e1:Nat.ble 1 7=true:=rfl;have e2:Nat.ble 2 2=true:=rfl;have e3:Nat.ble 1 1=true:=rfl;refine⟨N+3,_,_,fun n hn=>?_,h4⟩;obtain⟨m,rfl⟩:∃ m,n=m+2:=⟨n - 2,by omega⟩;rw[Mach.zj1 zsd];unfold ziy;rw[zsf];have hh:=h1 (m+1) (by omega);have hdc:=zp5 m B h.length (h.length+1) ((H'.set h.length (.blk [lI a,lI b])).set (h.length+1) (.blk [lI 0]));simp[zqp,ztN,body,exec,zaU,zdr,wanted,St.put,zan,q,Mx.eff,ev,evs,zbe,List.replicate,V.cells,zgi,qal hB,qal (Nat.le_succ_of_le hB),zbX,zms,zlZ,fin,zcS,zje,takeN,zgf,e1]at hh hdc ⊢;simp[hh,hdc,hb1,hb2,hb3,hb4,qal hB,e2,e3,leave];exact⟨_,rfl,rfl⟩
theorem zp6{c:Cx}{a b:Int}{v:V}(h:R c (.agg [dI a,dI b]) v):v=.agg [lI a,lI b]:=by
 cases h with
 | agg h1 h2=>
  rename_i vs
  match vs,h1,h2 with
  | [x,y],_,h2=>
   have e1:=h2 0 _ _ rfl rfl;have e2:=h2 1 _ _ rfl rfl;cases zgX e1;cases zgX e2;rfl
  | [],h1,_=>simp at h1
  | [_],h1,_=>simp at h1
  | _ :: _ :: _ :: _,h1,_=>simp at h1
theorem ztv{f:Nat}{us:List D}{a b:Int}(hf:Lx.Fn mC f us (.agg [dI a,dI b])):Lx.Fn mC gdN [.clo f [] us] (.tup [.agg [dI a,dI b],dI 0]):=by
 intro z B H vs hz hB hr;obtain⟨v,vs',rfl,h1,h2⟩:=hr.inv;have hvs:vs'=[]:=qan h2.1.symm;subst hvs;cases h1 with
 | clo q1 q2 q3 q4=>
  rename_i vs ws;have hv0:vs=[]:=qan q1.symm;subst hv0;have hlen:(H ++ [Ob.blk [lI 0,lI 0]]++ [Ob.blk [lI 0]]).length=H.length+2:=by simp
  have hpre:∀ b,b<H.length→(H ++ [Ob.blk [lI 0,lI 0]]++ [Ob.blk [lI 0]])[b]? = H[b]?:=fun b hb=>by
   rw[qa7,qaj hb]
  have hrs:Rs ⟨z,fun _=>none,fun _=>none,(H ++ [Ob.blk [lI 0,lI 0]]++ [Ob.blk [lI 0]]).length⟩ us ws:=
   Rs.mono ⟨q2,q4⟩ ⟨fun _ _ h=>h,fun _ _ h=>h,fun β x hx=>(by cases hx),fun b cs cs' h=>(by cases h)⟩
  refine zr2 (a:=a) (b:=b) hB (EvF.mono (hf z B _ ws (fun b cs hb=>by rw[hpre b (qab.1 (hz b cs hb)).1]; exact hz b cs hb) (by rw[hlen]; omega) hrs) ?_);rintro cr H' ⟨k1,k2,v,zf,rfl,_,k5⟩;rw[hlen]at k1 k2;have g1:(H ++ [Ob.blk [lI 0,lI 0]]++ [Ob.blk [lI 0]])[H.length]? = some (Ob.blk [lI 0,lI 0]):=by simp
  have g2:(H ++ [Ob.blk [lI 0,lI 0]]++ [Ob.blk [lI 0]])[H.length+1]? = some (Ob.blk [lI 0]):=by simp
  refine⟨by rw[zp6 k5],by rw[k2 _ (by omega)]; exact g1,by rw[k2 _ (by omega)]; exact g2,by simp only[qaW]; omega,fun b hb=>?_,_,fun _=>none,rfl,fun b cs hb=>(by cases hb),?_⟩
  ·rw[qak (by omega),qak (by omega),k2 b (by omega),hpre b hb]
  refine .tup rfl fun i d v h1 h2=>?_
  match i with
  | 0=>
   cases h1; cases h2;refine .agg rfl fun i d v h1 h2=>?_
   match i with
   | 0=>cases h1; cases h2; exact .lit _
   | 1=>cases h1; cases h2; exact .lit _
   | i+2=>simp at h1
  | 1=>cases h1; cases h2; exact .lit _
  | i+2=>simp at h1
def zdF:Nat→Int→Int→Option Int
 | 0,_,_=>none
 | n+1,v0,v1=>(
bif (v1 == 0)then(
some v0)
else(
(zrU v0 v1).bind fun q2=>
zdF n v1 q2))
def zfh(N:Nat)(p0:Int)(p1:Int):Option Int:=
((zdF N p0 p1:Option Int)).bind fun v0=>
some v0
theorem zi3{N:Nat}{p0:Int}{p1:Int}{r:Int}(h:zfh N p0 p1=some r):Lx.Fn mC 141 [(dU p0),(dU p1)] (dU r):=by
 refine fnO (by conv=>lhs; cbv) ?_;unfold zfh at h;refine zaa ?_;try simp only[rnA,Nat.reduceEqDiff,reduceIte,Nat.reduceLT,Nat.reduceAdd,Nat.reduceLeDiff,Nat.reduceMul,Nat.reduceSub,Int.reduceLE,Int.reduceLT,Int.reduceBEq,Nat.reduceBEq,reduceCtorEq]
 obtain⟨o1,j1,h⟩:=bind_some h;obtain⟨T1,hT1⟩:=mkT fun a:Int=>⟨12,[(0,(dU a))],[]⟩
 refine EvL.jn T1 (fun a=>a=o1) ?_ ?_
 ·refine zaa ?_;simp only[rnA,Nat.reduceEqDiff,reduceIte,Nat.reduceLT,Nat.reduceAdd,Nat.reduceLeDiff,Nat.reduceMul,Nat.reduceSub,Int.reduceLE,Int.reduceLT,Int.reduceBEq,Nat.reduceBEq,reduceCtorEq];obtain⟨T2,hT2⟩:=mkT fun a:(Int×Int)=>⟨12,[(0,(dU a.1)),(1,(dU a.2))],[]⟩
  refine EvL.rounds (α:=(Int×Int)) T2 (fun n a=>zdF n a.1 a.2=some o1) N (p0,p1) (by rw[hT2]; exact wm0 [] (by exact trivial)) j1 (fun _ h=>nomatch (show(none:Option Int)=some o1 from h)) ?_;rintro n ⟨v0,v1⟩ j1;simp only[zdF]at j1;rw[congrFun hT2 (v0,v1)];refine zaa ?_;try simp only[rnA,Nat.reduceEqDiff,reduceIte,Nat.reduceLT,Nat.reduceAdd,Nat.reduceLeDiff,Nat.reduceMul,Nat.reduceSub,Int.reduceLE,Int.reduceLT,Int.reduceBEq,Nat.reduceBEq,reduceCtorEq]
  cases c1:(v1 == 0)
  ·rw[c1,cond_false]at j1;obtain⟨q2,g3,j1⟩:=bind_some j1;try simp only[rnA,Nat.reduceEqDiff,reduceIte,Nat.reduceLT,Nat.reduceAdd,Nat.reduceLeDiff,Nat.reduceMul,Nat.reduceSub,Int.reduceLE,Int.reduceLT,Int.reduceBEq,Nat.reduceBEq,reduceCtorEq,zoy g3,zoM g3,c1]
   exact⟨(v1,q2),j1,by rw[hT2]; exact wm0 [] (by exact trivial)⟩
  rw[c1,cond_true]at j1;try simp only[rnA,Nat.reduceEqDiff,reduceIte,Nat.reduceLT,Nat.reduceAdd,Nat.reduceLeDiff,Nat.reduceMul,Nat.reduceSub,Int.reduceLE,Int.reduceLT,Int.reduceBEq,Nat.reduceBEq,reduceCtorEq,c1]
  replace j1:=qaa j1; subst j1;exact lfj hT1 rfl (wm0 [] (by exact trivial))
 rintro v0 rfl;rw[congrFun hT1 v0];refine zaa ?_;try simp only[rnA,Nat.reduceEqDiff,reduceIte,Nat.reduceLT,Nat.reduceAdd,Nat.reduceLeDiff,Nat.reduceMul,Nat.reduceSub,Int.reduceLE,Int.reduceLT,Int.reduceBEq,Nat.reduceBEq,reduceCtorEq]
 replace h:=qaa h; subst h;exact za0.ret rfl (.lit _)
def zbA(p0:Int):Option Int:=
bif (decide (p0<0))then(
some (IntKind.u64.wrap (0 - (IntKind.u64.wrap p0))))
else(
some (IntKind.u64.wrap p0))
theorem zbH{p0:Int}{r:Int}(h:zbA p0=some r):Lx.Fn mC 142 [(dI p0)] (dU r):=by
 refine fnO (by conv=>lhs; cbv) ?_;unfold zbA at h;refine zaa ?_;try simp only[rnA,Nat.reduceEqDiff,reduceIte,Nat.reduceLT,Nat.reduceAdd,Nat.reduceLeDiff,Nat.reduceMul,Nat.reduceSub,Int.reduceLE,Int.reduceLT,Int.reduceBEq,Nat.reduceBEq,reduceCtorEq]
 cases c1:(decide (p0<0))
 ·rw[c1,cond_false]at h;try simp only[rnA,Nat.reduceEqDiff,reduceIte,Nat.reduceLT,Nat.reduceAdd,Nat.reduceLeDiff,Nat.reduceMul,Nat.reduceSub,Int.reduceLE,Int.reduceLT,Int.reduceBEq,Nat.reduceBEq,reduceCtorEq,c1]
  replace h:=qaa h; subst h;exact za0.ret rfl (.lit _)
 rw[c1,cond_true]at h;try simp only[rnA,Nat.reduceEqDiff,reduceIte,Nat.reduceLT,Nat.reduceAdd,Nat.reduceLeDiff,Nat.reduceMul,Nat.reduceSub,Int.reduceLE,Int.reduceLT,Int.reduceBEq,Nat.reduceBEq,reduceCtorEq,c1]
 replace h:=qaa h; subst h;exact za0.ret rfl (.lit _)
def zeb(p0:Bool)(p1:A2_Intu64)(p2:A2_Intu64):Option S_api_Q:=
((bif (p1.a0 == 0)then(
bif (decide (4611686018427387903<p1.a1))then(
some true)
else(
bif (p2.a0 == 0)then(
some (decide (4611686018427387903<p2.a1)))
else(
some true)))
else(
some true):Option Bool)).bind fun v24=>
bif v24 then(
none)
else(
bif p0 then(
some (S_api_Q.mk (w64 (0 - (w64 p1.a1))) (w64 p2.a1)))
else(
some (S_api_Q.mk (w64 p1.a1) (w64 p2.a1))))
theorem ze8{p0:Bool}{p1:A2_Intu64}{p2:A2_Intu64}{r:S_api_Q}(h:zeb p0 p1 p2=some r):Lx.Fn mC 143 [(dB p0),(.agg [(dU p1.a0),(dU p1.a1)]),(.agg [(dU p2.a0),(dU p2.a1)])] (.agg [(dI r.n),(dI r.d)]):=by
 refine fnO (by conv=>lhs; cbv) ?_;unfold zeb at h;refine zaa ?_;try simp only[rnA,Nat.reduceEqDiff,Nat.reduceLT,Nat.reduceAdd,reduceCtorEq]
 obtain⟨o1,j1,h⟩:=bind_some h;obtain⟨T1,hT1⟩:=mkT fun a:Bool=>⟨43,[(0,(dB p0)),(4,(.ptr 0 0)),(5,(.ptr 1 0)),(6,(.ptr 2 0)),(24,(dB a))],[.cells [(dU p1.a0),(dU p1.a1)],.cells [(dU p2.a0),(dU p2.a1)],.cells [(dI 0),(dI 0)]]⟩
 refine EvL.jn T1 (fun a=>a=o1) ?_ ?_
 ·refine zaa ?_;try simp only[rnA,Nat.reduceEqDiff,Nat.reduceLT,Int.reduceLE,Int.reduceLT,reduceCtorEq,Int.reduceToNat,qbu,qbj]
  cases c1:(p1.a0 == 0)
  ·rw[c1,cond_false]at j1;try simp only[rnA,Nat.reduceEqDiff,Nat.reduceLT,reduceCtorEq]
   replace j1:=qaa j1; subst j1;exact lfj hT1 rfl (wm0 [.k,.k,.k] ⟨MB.cs ⟨qb1,qb1,qb1⟩,⟨MB.cs ⟨qb1,qb1,qb1⟩,⟨MB.cs ⟨qb1,qb1,qb1⟩,qb1⟩⟩⟩)
  rw[c1,cond_true]at j1;try simp only[rnA,Nat.reduceEqDiff,Nat.reduceLT,Int.reduceLE,Int.reduceLT,reduceCtorEq,Int.reduceToNat,qbu,Nat.one_mul]
  cases c2:(decide (4611686018427387903<p1.a1))
  ·rw[c2,cond_false]at j1;try simp only[rnA,Nat.reduceEqDiff,Nat.reduceLT,Int.reduceLE,Int.reduceLT,reduceCtorEq,Int.reduceToNat,qbu,qbj]
   cases c3:(p2.a0 == 0)
   ·rw[c3,cond_false]at j1;try simp only[rnA,Nat.reduceEqDiff,Nat.reduceLT,reduceCtorEq]
    replace j1:=qaa j1; subst j1;exact lfj hT1 rfl (wm0 [.k,.k,.k] ⟨MB.cs ⟨qb1,qb1,qb1⟩,⟨MB.cs ⟨qb1,qb1,qb1⟩,⟨MB.cs ⟨qb1,qb1,qb1⟩,qb1⟩⟩⟩)
   rw[c3,cond_true]at j1;try simp only[rnA,Nat.reduceEqDiff,Nat.reduceLT,Int.reduceLE,Int.reduceLT,reduceCtorEq,Int.reduceToNat,qbu,Nat.one_mul]
   replace j1:=qaa j1; subst j1;exact lfj hT1 rfl (wm0 [.k,.k,.k] ⟨MB.cs ⟨qb1,qb1,qb1⟩,⟨MB.cs ⟨qb1,qb1,qb1⟩,⟨MB.cs ⟨qb1,qb1,qb1⟩,qb1⟩⟩⟩)
  rw[c2,cond_true]at j1;try simp only[rnA,Nat.reduceEqDiff,Nat.reduceLT,reduceCtorEq]
  replace j1:=qaa j1; subst j1;exact lfj hT1 rfl (wm0 [.k,.k,.k] ⟨MB.cs ⟨qb1,qb1,qb1⟩,⟨MB.cs ⟨qb1,qb1,qb1⟩,⟨MB.cs ⟨qb1,qb1,qb1⟩,qb1⟩⟩⟩)
 rintro v24 rfl;rw[congrFun hT1 v24];refine zaa ?_;try simp only[rnA]
 refine EvL.scope (zaa ?_);try simp only[rnA,Nat.reduceEqDiff,reduceCtorEq]
 cases c4:v24
 ·rw[c4,cond_false]at h;try simp only[rnA,Nat.reduceEqDiff,Nat.reduceLT,reduceCtorEq]
  cases c5:p0
  ·rw[c5,cond_false]at h;try simp only[rnA,Nat.reduceEqDiff,Nat.reduceLT,Nat.reduceAdd,Nat.reduceLeDiff,Int.reduceLE,Int.reduceLT,reduceCtorEq,Int.reduceToNat,qbu,Nat.one_mul]
   replace h:=qaa h; subst h;exact za0.ret rfl (.za8 (.cons (.lit _) (.cons (.lit _) .nil)))
  rw[c5,cond_true]at h;try simp only[rnA,Nat.reduceEqDiff,Nat.reduceLT,Nat.reduceAdd,Nat.reduceLeDiff,Int.reduceLE,Int.reduceLT,reduceCtorEq,Int.reduceToNat,qbu,Nat.one_mul]
  replace h:=qaa h; subst h;exact za0.ret rfl (.za8 (.cons (.lit _) (.cons (.lit _) .nil)))
 rw[c4,cond_true]at h;exact nomatch h
def zdV(N:Nat)(kp0:Int)(kp1:Int):Option S_api_Q:=
(zbA kp0).bind fun r1=>
(zbA kp1).bind fun r3=>
(zfh N r1 r3).bind fun r5=>
bif (decide (kp0<0))then(
bif (decide (kp1<0))then(
(zbA kp0).bind fun r40=>
(zi1 .u64 r40 r5).bind fun q42=>
(zbA kp1).bind fun r44=>
(zi1 .u64 r44 r5).bind fun q46=>
(zeb false (A2_Intu64.mk 0 q42) (A2_Intu64.mk 0 q46)).bind fun r48=>
some r48)
else(
(zbA kp0).bind fun r30=>
(zi1 .u64 r30 r5).bind fun q32=>
(zbA kp1).bind fun r34=>
(zi1 .u64 r34 r5).bind fun q36=>
(zeb true (A2_Intu64.mk 0 q32) (A2_Intu64.mk 0 q36)).bind fun r38=>
some r38))
else(
bif (decide (kp1<0))then(
(zbA kp0).bind fun r19=>
(zi1 .u64 r19 r5).bind fun q21=>
(zbA kp1).bind fun r23=>
(zi1 .u64 r23 r5).bind fun q25=>
(zeb true (A2_Intu64.mk 0 q21) (A2_Intu64.mk 0 q25)).bind fun r27=>
some r27)
else(
(zbA kp0).bind fun r9=>
(zi1 .u64 r9 r5).bind fun q11=>
(zbA kp1).bind fun r13=>
(zi1 .u64 r13 r5).bind fun q15=>
(zeb false (A2_Intu64.mk 0 q11) (A2_Intu64.mk 0 q15)).bind fun r17=>
some r17))
def zfq:C:=
 .seq (rg [⟨some 2,.alloc [(.int .i64 0),(.int .i64 0)],none⟩])
 (.seq (.reg true true [oL 4 0,
 oL 6 1,
 oU 5 142 4,
 oU 7 142 6,
 oV 8 141 5 7,
 oM 3 8])
 (.seq (.reg true true [oL 9 0,
 oD 10 .lss 9 0,
 oL 11 1,
 oD 12 .lss 11 0,
 ⟨some 13,.eqb true (.s 10) (.s 12),none⟩,
 oL 14 0,
 oM 16 3,
 oL 19 1,
 oM 21 3,
 oU 15 142 14,
 oB 17 .quo 15 16,
 ⟨some 18,.build [(.int .u64 0),(.int .u64 0)] [(0,1,(.c (.int .u64 0))),(1,1,(.s 17))],none⟩,
 oU 20 142 19,
 oB 22 .quo 20 21,
 ⟨some 23,.build [(.int .u64 0),(.int .u64 0)] [(0,1,(.c (.int .u64 0))),(1,1,(.s 22))],none⟩,
 ⟨some 24,.call 143 [(.s 13),(.s 18),(.s 23)],none⟩,
 oS 2 2 24])
 (.ret)))
theorem zhd:zhM mC 140=some (25,zfq,[.cell 2 (some 2)],false):=zbs (by kernel_rfl)
theorem zhh{N:Nat}{kp0:Int}{kp1:Int}{r:S_api_Q}(h:zdV N kp0 kp1=some r):Lx.Fn mC 140 [(.fptr false [(dI kp0)]),(.fptr false [(dI kp1)])] (.agg [(dI r.n),(dI r.d)]):=by
 refine Fn.of zhd (zaZ rfl) (qac rfl) ?_;unfold zdV at h;simp only[zfq,zlX];refine zaa ?_;obtain⟨r1,g2,h⟩:=bind_some h;try simp only[rnA,Nat.reduceEqDiff,Nat.reduceLT,Nat.reduceAdd,reduceCtorEq]
 refine EvL.fn (zbH g2) rfl rfl (.cons (.lit _) .nil) ?_;obtain⟨r3,g4,h⟩:=bind_some h;try simp only[rnA,Nat.reduceLT]
 refine EvL.fn (zbH g4) rfl rfl (.cons (.lit _) .nil) ?_;obtain⟨r5,g6,h⟩:=bind_some h;try simp only[rnA,Nat.reduceLT]
 refine EvL.fn (zi3 g6) rfl rfl (.cons (.lit _) (.cons (.lit _) .nil)) ?_;try simp only[rnA,Nat.reduceEqDiff,Nat.reduceLT,reduceCtorEq]
 cases c7:(decide (kp0<0))
 ·rw[c7,cond_false]at h;try simp only[rnA,qbK]
  cases c8:(decide (kp1<0))
  ·rw[c8,cond_false]at h;obtain⟨r9,g10,h⟩:=bind_some h;try simp only[rnA,Nat.reduceEqDiff,reduceIte,Nat.reduceLT,Nat.reduceAdd,Nat.reduceLeDiff,Nat.reduceMul,Nat.reduceSub,Int.reduceLE,Int.reduceLT,Int.reduceBEq,Nat.reduceBEq,reduceCtorEq,zaH,zhv,qbK,qbT,c7,c8]
   refine EvL.fn (zbH g10) rfl rfl (.cons (.lit _) .nil) ?_;obtain⟨q11,g12,h⟩:=bind_some h;obtain⟨r13,g14,h⟩:=bind_some h;try simp only[rnA,Nat.reduceEqDiff,Nat.reduceLT,Nat.reduceAdd,Nat.reduceLeDiff,reduceCtorEq,zce g12,zcq g12]
   refine EvL.fn (zbH g14) rfl rfl (.cons (.lit _) .nil) ?_;obtain⟨q15,g16,h⟩:=bind_some h;obtain⟨r17,g18,h⟩:=bind_some h;try simp only[rnA,Nat.reduceEqDiff,Nat.reduceLT,Nat.reduceAdd,Nat.reduceLeDiff,reduceCtorEq,zce g16,zcq g16]
   refine EvL.fn (ze8 g18) rfl rfl (.cons (.lit _) (.cons (.za8 (.cons (.lit _) (.cons (.lit _) .nil))) (.cons (.za8 (.cons (.lit _) (.cons (.lit _) .nil))) .nil))) ?_;try simp only[rnA,Nat.reduceEqDiff,Nat.reduceLT,Nat.reduceAdd,Nat.reduceLeDiff,reduceCtorEq]
   replace h:=qaa h; subst h;exact za0.ret rfl (.za8 (.cons (.lit _) (.cons (.lit _) .nil)))
  rw[c8,cond_true]at h;obtain⟨r19,g20,h⟩:=bind_some h;try simp only[rnA,Nat.reduceEqDiff,reduceIte,Nat.reduceLT,Nat.reduceAdd,Nat.reduceLeDiff,Nat.reduceMul,Nat.reduceSub,Int.reduceLE,Int.reduceLT,Int.reduceBEq,Nat.reduceBEq,reduceCtorEq,zaH,zhv,qbK,qbT,c7,c8]
  refine EvL.fn (zbH g20) rfl rfl (.cons (.lit _) .nil) ?_;obtain⟨q21,g22,h⟩:=bind_some h;obtain⟨r23,g24,h⟩:=bind_some h;try simp only[rnA,Nat.reduceEqDiff,Nat.reduceLT,Nat.reduceAdd,Nat.reduceLeDiff,reduceCtorEq,zce g22,zcq g22]
  refine EvL.fn (zbH g24) rfl rfl (.cons (.lit _) .nil) ?_;obtain⟨q25,g26,h⟩:=bind_some h;obtain⟨r27,g28,h⟩:=bind_some h;try simp only[rnA,Nat.reduceEqDiff,Nat.reduceLT,Nat.reduceAdd,Nat.reduceLeDiff,reduceCtorEq,zce g26,zcq g26]
  refine EvL.fn (ze8 g28) rfl rfl (.cons (.lit _) (.cons (.za8 (.cons (.lit _) (.cons (.lit _) .nil))) (.cons (.za8 (.cons (.lit _) (.cons (.lit _) .nil))) .nil))) ?_;try simp only[rnA,Nat.reduceEqDiff,Nat.reduceLT,Nat.reduceAdd,Nat.reduceLeDiff,reduceCtorEq]
  replace h:=qaa h; subst h;exact za0.ret rfl (.za8 (.cons (.lit _) (.cons (.lit _) .nil)))
 rw[c7,cond_true]at h;try simp only[qbT]
 cases c29:(decide (kp1<0))
 ·rw[c29,cond_false]at h;obtain⟨r30,g31,h⟩:=bind_some h;try simp only[rnA]
  refine EvL.fn (zbH g31) rfl rfl (.cons (.lit _) .nil) ?_;obtain⟨q32,g33,h⟩:=bind_some h;obtain⟨r34,g35,h⟩:=bind_some h;try simp only[rnA,Nat.reduceEqDiff,Nat.reduceLT,Nat.reduceAdd,Nat.reduceLeDiff,reduceCtorEq,zce g33,zcq g33]
  refine EvL.fn (zbH g35) rfl rfl (.cons (.lit _) .nil) ?_;obtain⟨q36,g37,h⟩:=bind_some h;obtain⟨r38,g39,h⟩:=bind_some h;try simp only[rnA,Nat.reduceEqDiff,Nat.reduceLT,Nat.reduceAdd,Nat.reduceLeDiff,reduceCtorEq,zce g37,zcq g37]
  refine EvL.fn (ze8 g39) rfl rfl (.cons (.lit _) (.cons (.za8 (.cons (.lit _) (.cons (.lit _) .nil))) (.cons (.za8 (.cons (.lit _) (.cons (.lit _) .nil))) .nil))) ?_;try simp only[rnA,Nat.reduceEqDiff,Nat.reduceLT,Nat.reduceAdd,Nat.reduceLeDiff,reduceCtorEq]
  replace h:=qaa h; subst h;exact za0.ret rfl (.za8 (.cons (.lit _) (.cons (.lit _) .nil)))
 rw[c29,cond_true]at h;obtain⟨r40,g41,h⟩:=bind_some h;try simp only[rnA]
 refine EvL.fn (zbH g41) rfl rfl (.cons (.lit _) .nil) ?_;obtain⟨q42,g43,h⟩:=bind_some h;obtain⟨r44,g45,h⟩:=bind_some h;try simp only[rnA,Nat.reduceEqDiff,Nat.reduceLT,Nat.reduceAdd,Nat.reduceLeDiff,reduceCtorEq,zce g43,zcq g43]
 refine EvL.fn (zbH g45) rfl rfl (.cons (.lit _) .nil) ?_;obtain⟨q46,g47,h⟩:=bind_some h;obtain⟨r48,g49,h⟩:=bind_some h;try simp only[rnA,Nat.reduceEqDiff,Nat.reduceLT,Nat.reduceAdd,Nat.reduceLeDiff,reduceCtorEq,zce g47,zcq g47]
 refine EvL.fn (ze8 g49) rfl rfl (.cons (.lit _) (.cons (.za8 (.cons (.lit _) (.cons (.lit _) .nil))) (.cons (.za8 (.cons (.lit _) (.cons (.lit _) .nil))) .nil))) ?_;try simp only[rnA,Nat.reduceEqDiff,Nat.reduceLT,Nat.reduceAdd,Nat.reduceLeDiff,reduceCtorEq]
 replace h:=qaa h; subst h;exact za0.ret rfl (.za8 (.cons (.lit _) (.cons (.lit _) .nil)))
def zhD(N:Nat)(kp0 kp1:Int):Option (S_api_Q×Int):=(zdV N kp0 kp1).bind fun q=>some (q,0)
theorem zjZ{N:Nat}{kp0 kp1:Int}{r:S_api_Q×Int}(h:zhD N kp0 kp1=some r):
  Lx.Fn mC 139 [.clo 140 [] [.fptr false [dI kp0],.fptr false [dI kp1]]] (.tup [.agg [dI r.1.n,dI r.1.d],dI r.2]):=by
 obtain⟨q,h1,h2⟩:=bind_some h;cases h2;exact ztv (zhh h1)
end Go.Dc
