/-
 What circuit_Kinds computes. Conditions: none.
-/
import Derived.Test.YtbjogdohfhdaiaaCaJ1
import Derived.Test.YtbjogdohfhdaiaaCaJ2
import Derived.Test.YtbjogdohfhdaiaaCaJ3
set_option linter.unusedSimpArgs false
set_option linter.unusedVariables false
set_option maxRecDepth 100000
set_option maxHeartbeats 4000000
namespace Go.Dc
open Go Go.Mx Go.Lx Go.Proofs
def zaA(x7:S_api_Gate)(r4:(List Int)):Nat->Bool->Bool->Int->Int->Option (Bool×Bool)
 | 0,_,_,_,_=>none
 | n+1,v2',v3',v9,v29=>(
bif (decide (v29<(x7.args.length:Int)))then(
(zaS x7.args v29).bind λx10=>
((bif (x7.kind == 3)then(
bif v2' then(
(zaS r4 x10).bind λx17=>
(zaS x7.args 0).bind λx19=>
(zaS r4 x19).bind λx21=>
some ((x17 == x21),v3'))
else(
some (false,v3')))
else(
bif v3' then(
(zaS r4 x10).bind λx14=>
some (v2',((zkD .u64 x14 v9)== 0)))
else(
some (v2',false))):Option ((Bool×Bool)))).bind λo=>match o with
|(v2'',v3'')=>(
(zaS r4 x10).bind λx23=>
(zby [v9,x23]).bind λr25=>
zaA x7 r4 n v2'' v3'' r25 (w64 (v29+1))))
else(
some (v2',v3')))
def za5(p0:S_api_Circuit)(r4:(List Int)):Nat->Bool->Bool->Int->Option (Bool×Bool)
 | 0,_,_,_=>none
 | n+1,v2,v3,v22=>(
bif (decide (v22<(p0.gates.length:Int)))then(
(zaS p0.gates v22).bind λx7=>
((zaA x7 r4 ((x7.args.length:Int) - 0+2:Int).toNat v2 v3 0 0:Option ((Bool×Bool)))).bind λo=>match o with
|(v2',v3')=>(
za5 p0 r4 n v2' v3' (w64 (v22+1))))
else(
some (v2,v3)))
def zbD(p0:S_api_Circuit):Option (Bool×Bool×Bool×Int):=
(zbI p0).bind λr1=>
bif (r1 == 0)then(
(zaZ p0).bind λr4=>
((za5 p0 r4 ((p0.gates.length:Int) - 0+2:Int).toNat true true 0:Option ((Bool×Bool)))).bind λo=>match o with
|(v2,v3)=>(
(zbk p0).bind λr27=>
some (v2,v3,r27.2,0)))
else(
some (false,false,false,r1))
theorem zf1{p0:S_api_Circuit}{r:(Bool×Bool×Bool×Int)}(h:zbD p0=some r):Lx.Fn mC 12 [(.agg [(fzE false (eI .i64) p0.cards),(fzE false zab p0.gates)])] (.tup [(dB r.1),(dB r.2.1),(dB r.2.2.1),(dI r.2.2.2)]):=by
 refine gnO ?_;unfold zbD at h;refine zaa ?_;obtain⟨r1,g2,h⟩:=bind_some h;try simp only[rnA,Nat.reduceEqDiff,Nat.reduceLT,Nat.reduceAdd,Nat.reduceLeDiff,reduceCtorEq]
 refine EvL.fn (zdC g2) rfl rfl (.cons (.zl2 (.cons (zaM _ _ (λh=>nomatch h)) (.cons (zaM _ _ (λh=>nomatch h)) .nil))) .nil) ?_;try simp only[rnA,Nat.reduceEqDiff,Nat.reduceLT,reduceCtorEq]
 cases c3:(r1 == 0)
 .rw[c3,qcS]at h;try simp only[rnA,Nat.reduceEqDiff,Nat.reduceLT,reduceCtorEq]
  replace h:=qae h; subst h;exact zc7.ret rfl (Snp.ztX (.cons (.lit _) (.cons (.lit _) (.cons (.lit _) (.cons (.lit _) .nil)))))
 rw[c3,qcR]at h;obtain⟨r4,g5,h⟩:=bind_some h;try simp only[rnA,Nat.reduceEqDiff,Nat.reduceLT,Nat.reduceAdd,Nat.reduceLeDiff,reduceCtorEq]
 refine EvL.fn (zeu g5) rfl rfl (.cons (.zl2 (.cons (zaM _ _ (λh=>nomatch h)) (.cons (zaM _ _ (λh=>nomatch h)) .nil))) .nil) ?_;try simp only[rnA,Nat.reduceEqDiff,Nat.reduceLT,reduceCtorEq,zal]
 obtain⟨o27,j27,h⟩:=bind_some h;obtain⟨T27,hT27⟩:=mkT λa:(Bool×Bool)=>⟨78,[(1,(.ptr 0 0)),(2,(dB a.1)),(3,(dB a.2))],[.cells [(fzE false (eI .i64) p0.cards),(fzE false zab p0.gates)]]⟩
 refine EvL.jn T27 (λa=>a=o27) ?_ ?_
 .refine zaa ?_;simp only[rnA];obtain⟨T46,hT46⟩:=mkT λa:(Bool×Bool×Int)=>⟨78,[(1,(.ptr 0 0)),(2,(dB a.1)),(3,(dB a.2.1)),(6,(fzE true (eI .u64) r4)),(20,(fzE false zab p0.gates)),(21,(dI (p0.gates.length:Int))),(22,(dI a.2.2))],[.cells [(fzE false (eI .i64) p0.cards),(fzE false zab p0.gates)]]⟩
  refine EvL.rounds (α:=(Bool×Bool×Int)) T46 (λn a=>za5 p0 r4 n a.1 a.2.1 a.2.2=some o27) ((p0.gates.length:Int) - 0+2:Int).toNat (true,true,0) (by rw[hT46]; exact wm0 [.k] ⟨MB.cs ⟨qcQ,qcQ,qcQ⟩,qcQ⟩) j27 (λ_ h=>nomatch (show(none:Option (Bool×Bool))=some o27 from h)) ?_;rintro n ⟨v2,v3,v22⟩ j27;simp only[za5]at j27;rw[congrFun hT46 (v2,v3,v22)];refine zaa ?_;try simp only[rnA,Nat.reduceEqDiff,Nat.reduceLT]
  cases c6:(decide (v22<(p0.gates.length:Int)))
  .rw[c6,qcS]at j27;try simp only[rnA]
   replace j27:=qae j27; subst j27;exact lfj hT27 rfl (wm0 [.k] ⟨MB.cs ⟨qcQ,qcQ,qcQ⟩,qcQ⟩)
  rw[c6,qcR]at j27;obtain⟨x7,g8,j27⟩:=bind_some j27;try simp only[rnA,Nat.reduceEqDiff,Nat.reduceLT,Nat.reduceAdd,Nat.reduceLeDiff,zaE,zai (n:=5) (e:=zab) rfl g8,zal]
  obtain⟨o50,j50,j27⟩:=bind_some j27;obtain⟨T50,hT50⟩:=mkT λa:(Bool×Bool)=>⟨78,[(1,(.ptr 0 0)),(2,(dB a.1)),(3,(dB a.2)),(6,(fzE true (eI .u64) r4)),(20,(fzE false zab p0.gates)),(21,(dI (p0.gates.length:Int))),(22,(dI v22))],[.cells [(fzE false (eI .i64) p0.cards),(fzE false zab p0.gates)]]⟩
  refine EvL.jn T50 (λa=>a=o50) ?_ ?_
  .refine zaa ?_;simp only[rnA];obtain⟨T53,hT53⟩:=mkT λa:(Bool×Bool×Int×Int)=>⟨78,[(1,(.ptr 0 0)),(2,(dB a.1)),(3,(dB a.2.1)),(6,(fzE true (eI .u64) r4)),(8,(.ptr 1 0)),(9,(dU a.2.2.1)),(20,(fzE false zab p0.gates)),(21,(dI (p0.gates.length:Int))),(22,(dI v22)),(27,(fzE false (eI .i64) x7.args)),(28,(dI (x7.args.length:Int))),(29,(dI a.2.2.2))],[.cells [(fzE false (eI .i64) p0.cards),(fzE false zab p0.gates)],.cells [(dI x7.kind),(dI x7.var),(dI x7.val),(dI x7.n),(fzE false (eI .i64) x7.args)]]⟩
   refine EvL.rounds (α:=(Bool×Bool×Int×Int)) T53 (λn a=>zaA x7 r4 n a.1 a.2.1 a.2.2.1 a.2.2.2=some o50) ((x7.args.length:Int) - 0+2:Int).toNat (v2,v3,0,0) (by rw[hT53]; exact wm0 [.k,.k] ⟨MB.cs ⟨qcQ,qcQ,qcQ⟩,⟨MB.cs ⟨qcQ,qcQ,qcQ,qcQ,qcQ,qcQ⟩,qcQ⟩⟩) j50 (λ_ h=>nomatch (show(none:Option (Bool×Bool))=some o50 from h)) ?_;rintro n ⟨v2',v3',v9,v29⟩ j50;simp only[zaA]at j50;rw[congrFun hT53 (v2',v3',v9,v29)];refine zaa ?_;try simp only[rnA,Nat.reduceEqDiff,Nat.reduceLT]
   cases c9:(decide (v29<(x7.args.length:Int)))
   .rw[c9,qcS]at j50;try simp only[rnA,Nat.reduceEqDiff,Nat.reduceLT,reduceCtorEq]
    replace j50:=qae j50; subst j50;exact lfj hT50 rfl (wm0 [.k] ⟨MB.cs ⟨qcQ,qcQ,qcQ⟩,qcQ⟩)
   rw[c9,qcR]at j50;obtain⟨x10,g11,j50⟩:=bind_some j50;try simp only[rnA,Nat.reduceEqDiff,Nat.reduceLT,zai (n:=1) (e:=(eI .i64)) rfl g11]
   obtain⟨o54,j54,j50⟩:=bind_some j50;obtain⟨T54,hT54⟩:=mkT λa:(Bool×Bool)=>⟨78,[(1,(.ptr 0 0)),(2,(dB a.1)),(3,(dB a.2)),(6,(fzE true (eI .u64) r4)),(8,(.ptr 1 0)),(9,(dU v9)),(11,(dI x10)),(20,(fzE false zab p0.gates)),(21,(dI (p0.gates.length:Int))),(22,(dI v22)),(27,(fzE false (eI .i64) x7.args)),(28,(dI (x7.args.length:Int))),(29,(dI v29))],[.cells [(fzE false (eI .i64) p0.cards),(fzE false zab p0.gates)],.cells [(dI x7.kind),(dI x7.var),(dI x7.val),(dI x7.n),(fzE false (eI .i64) x7.args)]]⟩
   refine EvL.jn T54 (λa=>a=o54) ?_ ?_
   .refine zaa ?_;try simp only[rnA,Nat.reduceEqDiff]
    cases c12:(x7.kind == 3)
    .rw[c12,qcS]at j54;try simp only[rnA,Nat.reduceEqDiff,Nat.reduceLT]
     cases c13:v3'
     .rw[c13,qcS]at j54;try simp only[rnA,Nat.reduceEqDiff,Nat.reduceLT]
      replace j54:=qae j54; subst j54;exact lfj hT54 rfl (wm0 [.k,.k] ⟨MB.cs ⟨qcQ,qcQ,qcQ⟩,⟨MB.cs ⟨qcQ,qcQ,qcQ,qcQ,qcQ,qcQ⟩,qcQ⟩⟩)
     rw[c13,qcR]at j54;obtain⟨x14,g15,j54⟩:=bind_some j54;try simp only[rnA,Nat.reduceEqDiff,Nat.reduceLT,zai (n:=1) (e:=(eI .u64)) rfl g15]
     replace j54:=qae j54; subst j54;exact lfj hT54 rfl (wm0 [.k,.k] ⟨MB.cs ⟨qcQ,qcQ,qcQ⟩,⟨MB.cs ⟨qcQ,qcQ,qcQ,qcQ,qcQ,qcQ⟩,qcQ⟩⟩)
    rw[c12,qcR]at j54;try simp only[rnA,Nat.reduceEqDiff,Nat.reduceLT]
    cases c16:v2'
    .rw[c16,qcS]at j54;try simp only[rnA,Nat.reduceEqDiff,Nat.reduceLT]
     replace j54:=qae j54; subst j54;exact lfj hT54 rfl (wm0 [.k,.k] ⟨MB.cs ⟨qcQ,qcQ,qcQ⟩,⟨MB.cs ⟨qcQ,qcQ,qcQ,qcQ,qcQ,qcQ⟩,qcQ⟩⟩)
    rw[c16,qcR]at j54;obtain⟨x17,g18,j54⟩:=bind_some j54;obtain⟨x19,g20,j54⟩:=bind_some j54;obtain⟨x21,g22,j54⟩:=bind_some j54;try simp only[rnA,Nat.reduceEqDiff,Nat.reduceLT,zai (n:=1) (e:=(eI .u64)) rfl g18,zai (n:=1) (e:=(eI .i64)) rfl g20,zai (n:=1) (e:=(eI .u64)) rfl g22]
    replace j54:=qae j54; subst j54;exact lfj hT54 rfl (wm0 [.k,.k] ⟨MB.cs ⟨qcQ,qcQ,qcQ⟩,⟨MB.cs ⟨qcQ,qcQ,qcQ,qcQ,qcQ,qcQ⟩,qcQ⟩⟩)
   rintro⟨v2'',v3''⟩ rfl;dsimp only at j50;rw[congrFun hT54 (v2'',v3'')];refine zaa ?_;obtain⟨x23,g24,j50⟩:=bind_some j50;obtain⟨r25,g26,j50⟩:=bind_some j50;try simp only[rnA,Nat.reduceEqDiff,Nat.reduceLT,Nat.reduceAdd,zai (n:=1) (e:=(eI .u64)) rfl g24]
   refine EvL.fn (zdN g26) rfl rfl (.cons (zcS (e:=(eI .u64)) (t:=true) rfl (.inl rfl) rfl rfl (λk h=>by cases h; exact qan _) (λh=>nomatch h)) .nil) ?_;try simp only[rnA,Nat.reduceEqDiff,Nat.reduceLT]
   exact⟨(v2'',v3'',r25,(w64 (v29+1))),j50,by rw[hT53]; exact wm0 [.k,.k] ⟨MB.cs ⟨qcQ,qcQ,qcQ⟩,⟨MB.cs ⟨qcQ,qcQ,qcQ,qcQ,qcQ,qcQ⟩,qcQ⟩⟩⟩
  rintro⟨v2',v3'⟩ rfl;dsimp only at j27;rw[congrFun hT50 (v2',v3')];refine zaa ?_;try simp only[rnA,Nat.reduceEqDiff,Nat.reduceLT]
  exact⟨(v2',v3',(w64 (v22+1))),j27,by rw[hT46]; exact wm0 [.k] ⟨MB.cs ⟨qcQ,qcQ,qcQ⟩,qcQ⟩⟩
 rintro⟨v2,v3⟩ rfl;dsimp only at h;rw[congrFun hT27 (v2,v3)];refine zaa ?_;obtain⟨r27,g28,h⟩:=bind_some h;try simp only[rnA,Nat.reduceEqDiff,Nat.reduceLT,Nat.reduceAdd,Nat.reduceLeDiff]
 refine EvL.fn (zfj g28) rfl rfl (.cons (.zl2 (.cons (zaM _ _ (λh=>nomatch h)) (.cons (zaM _ _ (λh=>nomatch h)) .nil))) .nil) ?_;try simp only[rnA,Nat.reduceEqDiff,Nat.reduceLT]
 replace h:=qae h; subst h;exact zc7.ret rfl (Snp.ztX (.cons (.lit _) (.cons (.lit _) (.cons (.lit _) (.cons (.lit _) .nil)))))
end Go.Dc
