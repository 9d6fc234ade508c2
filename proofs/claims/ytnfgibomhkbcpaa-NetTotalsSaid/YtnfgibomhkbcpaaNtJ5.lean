/-
 What net_network_filled computes. Conditions: none.
-/
import Derived.Test.YtnfgibomhkbcpaaNtJ4
set_option linter.unusedSimpArgs false
set_option linter.unusedVariables false
set_option maxRecDepth 100000
set_option maxHeartbeats 4000000
namespace Go.Dc
open Go Go.Mx Go.Lx Go.Proofs
def za0(p1:S_api_Node)(p0:S_net_network):Nat→Int→Int→Option Int
 | 0,_,_=>none
 | n+1,v5,v16=>(
bif (decide (v16<(p1.parents.length:Int)))then(
(zaZ p1.parents v16).bind fun x2=>
(zaZ p0.zad x2).bind fun x4=>
za0 p1 p0 n (w64 (v5 * x4)) (w64 (v16+1)))
else(
some v5))
def zaW(y11:(Int×(List Int))):Nat→Int→Int→Option (Out Int Bool)
 | 0,_,_=>none
 | n+1,v10,v42=>(
bif (decide (v42<(y11.2.length:Int)))then(
(zaZ y11.2 v42).bind fun x13=>
((bif (decide (x13<0))then(
some true)
else(
some (decide (v10<x13))):Option Bool)).bind fun v52=>
bif v52 then(
some (.ret false))
else(
zaW y11 n (w64 (v10 - x13)) (w64 (v42+1))))
else(
some (.go v10)))
def zaO(p0:S_net_network)(p1:S_api_Node):List (Int×(List Int))→Option (Out Unit Bool)
 | []=>some (.go ())
 | y11 :: ys=>(
((zaW y11 ((y11.2.length:Int) - 0+2:Int).toNat p0.net.grain 0:Option (Out Int Bool))).bind fun o=>match o with
| .go v10=>(
((bif ((y11.2.length:Int)== p1.zaE)then(
some (!(v10 == 0)))
else(
some true):Option Bool)).bind fun v65=>
bif v65 then(
some (.ret false))
else(
zaO p0 p1 ys))
| .ret r=>some (.ret r))
def zbq(p0:S_net_network)(p1:S_api_Node):Option Bool:=
((za0 p1 p0 ((p1.parents.length:Int) - 0+2:Int).toNat 1 0:Option Int)).bind fun v5=>
bif ((p1.rows.length:Int)== v5)then(
(zeq p1).bind fun r7=>
(zd3 r7.rows).bind fun u9=>
((zaO p0 p1 (zqV r7.rows):Option (Out Unit Bool))).bind fun o=>match o with
| .go _=>(
some true)
| .ret r=>some r)
else(
some false)
theorem zfd{p0:S_net_network}{p1:S_api_Node}{r:Bool}(h:zbq p0 p1=some r):Lx.Fn mC 123 [(.agg [(dI p0.net.grain),(fzE false zab p0.net.nodes),(fzE false (eI .i64) p0.zad),(fzE false (eI .u64) p0.sets),(fzE false (eI .i64) p0.order)]),(.agg [(dI p1.zaE),(fzE false (eI .i64) p1.parents),(fzE false (eL (eI .i64)) p1.rows)])] (dB r):=by
 refine fnO (by conv=>lhs; cbv) ?_;unfold zbq at h;refine zaa ?_;try simp only[rnA,Nat.reduceEqDiff,Nat.reduceLT,Nat.reduceAdd,reduceCtorEq,zat]
 obtain⟨o1,j1,h⟩:=bind_some h;obtain⟨T1,hT1⟩:=mkT fun a:Int=>⟨66,[(2,(.ptr 0 0)),(3,(.ptr 1 0)),(4,(.ptr 2 0)),(5,(dI a))],[.cells [(dI p0.net.grain),(fzE false zab p0.net.nodes),(fzE false (eI .i64) p0.zad),(fzE false (eI .u64) p0.sets),(fzE false (eI .i64) p0.order)],.cells [(dI p1.zaE),(fzE false (eI .i64) p1.parents),(fzE false (eL (eI .i64)) p1.rows)],.cells [(dB false)]]⟩
 refine EvL.jn T1 (fun a=>a=o1) ?_ ?_
 ·refine zaa ?_;simp only[rnA];obtain⟨T2,hT2⟩:=mkT fun a:(Int×Int)=>⟨66,[(2,(.ptr 0 0)),(3,(.ptr 1 0)),(4,(.ptr 2 0)),(5,(dI a.1)),(14,(fzE false (eI .i64) p1.parents)),(15,(dI (p1.parents.length:Int))),(16,(dI a.2))],[.cells [(dI p0.net.grain),(fzE false zab p0.net.nodes),(fzE false (eI .i64) p0.zad),(fzE false (eI .u64) p0.sets),(fzE false (eI .i64) p0.order)],.cells [(dI p1.zaE),(fzE false (eI .i64) p1.parents),(fzE false (eL (eI .i64)) p1.rows)],.cells [(dB false)]]⟩
  refine EvL.rounds (α:=(Int×Int)) T2 (fun n a=>za0 p1 p0 n a.1 a.2=some o1) ((p1.parents.length:Int) - 0+2:Int).toNat (1,0) (by rw[hT2]; exact wm0 [.k,.k,.k] ⟨MB.cs ⟨qdb,qdb,qdb,qdb,qdb,qdb⟩,⟨MB.cs ⟨qdb,qdb,qdb,qdb⟩,⟨MB.cs ⟨qdb,qdb⟩,qdb⟩⟩⟩) j1 (fun _ h=>nomatch (show(none:Option Int)=some o1 from h)) ?_;rintro n ⟨v5,v16⟩ j1;simp only[za0]at j1;rw[congrFun hT2 (v5,v16)];refine zaa ?_;try simp only[rnA,Nat.reduceEqDiff,Nat.reduceLT]
  cases c1:(decide (v16<(p1.parents.length:Int)))
  ·rw[c1,cond_false]at j1;try simp only[rnA]
   replace j1:=qac j1; subst j1;exact lfj hT1 rfl (wm0 [.k,.k,.k] ⟨MB.cs ⟨qdb,qdb,qdb,qdb,qdb,qdb⟩,⟨MB.cs ⟨qdb,qdb,qdb,qdb⟩,⟨MB.cs ⟨qdb,qdb⟩,qdb⟩⟩⟩)
  rw[c1,cond_true]at j1;obtain⟨x2,g3,j1⟩:=bind_some j1;obtain⟨x4,g5,j1⟩:=bind_some j1;try simp only[rnA,Nat.reduceEqDiff,Nat.reduceLT,zao (n:=1) (e:=(eI .i64)) rfl g3,zao (n:=1) (e:=(eI .i64)) rfl g5]
  exact⟨((w64 (v5 * x4)),(w64 (v16+1))),j1,by rw[hT2]; exact wm0 [.k,.k,.k] ⟨MB.cs ⟨qdb,qdb,qdb,qdb,qdb,qdb⟩,⟨MB.cs ⟨qdb,qdb,qdb,qdb⟩,⟨MB.cs ⟨qdb,qdb⟩,qdb⟩⟩⟩⟩
 rintro v5 rfl;rw[congrFun hT1 v5];refine zaa ?_;try simp only[rnA,Nat.reduceEqDiff,Nat.reduceLT,zat]
 cases c6:((p1.rows.length:Int)== v5)
 ·rw[c6,cond_false]at h;try simp only[rnA,Nat.reduceEqDiff,Nat.reduceLeDiff]
  replace h:=qac h; subst h;exact zcr.ret rfl (.lit _)
 rw[c6,cond_true]at h;obtain⟨r7,g8,h⟩:=bind_some h;try simp only[rnA,Nat.reduceEqDiff,Nat.reduceLT,Nat.reduceAdd,Nat.reduceLeDiff]
 refine EvL.fnS (zin g8) rfl rfl (.cons (Mzs.agg (.cons (.lit _) (.cons (zcC _ _ (fun h=>by cases h<;>contradiction)) (.cons (zcC _ _ (fun h=>by cases h<;>contradiction)) .nil)))) .nil) ⟨⟨qdb,(zaJ _ _),(zaJ _ _),qdb⟩,qdb⟩ ⟨qdb,⟨⟨rfl,zab.fr _⟩,qdb⟩⟩ ?_;try simp only[rnA,Nat.reduceLT,zar]
 obtain⟨u9,g10,h⟩:=bind_some h;obtain⟨o12,j12,h⟩:=bind_some h;obtain⟨T12,hT12⟩:∃ T:Unit→List LB,T=(fun a=>[.cells [(dI p0.net.grain),(fzE false zab p0.net.nodes),(fzE false (eI .i64) p0.zad),(fzE false (eI .u64) p0.sets),(fzE false (eI .i64) p0.order)],.cells [(dI p1.zaE),(fzE false (eI .i64) p1.parents),(fzE false (eL (eI .i64)) p1.rows)],.cells [(dB false)]]):=⟨_,rfl⟩;refine EvL.zl2 (S':=⟨66,[(2,(.ptr 0 0)),(3,(.ptr 1 0)),(4,(.ptr 2 0)),(34,(.clo 156 [] [(.fptr false (zab.c false r7))]))],T12 ()⟩) (by rw[hT12]; exact wm0 [.k,.k,.k] ⟨MB.cs ⟨qdb,qdb,qdb,qdb,qdb,qdb⟩,⟨MB.cs ⟨qdb,qdb,qdb,qdb⟩,⟨MB.cs ⟨qdb,qdb⟩,qdb⟩⟩⟩) ?_;refine EvL.ze4 (n0:=3) (zhm r7 g10) rfl (bm:=.block 3 (.seq (.reg false false [⟨some 37,.fld 0 (.s 2),none⟩,⟨some 38,.fld 0 (.s 37),none⟩,⟨some 39,.load none (.s 38),none⟩,⟨some 10,.mov (.s 39),none⟩]) (.seq (.seq (.reg false false [⟨some 40,.mov (.s 9),none⟩,⟨some 41,.len (.s 40),none⟩,⟨some 42,.mov (.c (.int .i64 0)),none⟩]) (.scope (.block 4 (.loop (.seq (.reg false false [⟨some 43,.bin .lss (.s 42) (.s 41),none⟩]) (.seq (.cond (.s 43) (.skip) (.exit 4)) (.seq (.block 5 (.seq (.reg false false [⟨some 44,.idxS 1 (.s 40) (.s 42),none⟩,⟨some 45,.load none (.s 44),none⟩,⟨some 12,.mov (.s 45),none⟩]) (.seq (.seq (.scope (.reg false false [⟨some 46,.mov (.s 12),none⟩,⟨some 47,.bin .lss (.s 46) (.c (.int .i64 0)),none⟩,⟨some 48,.mov (.s 47),none⟩,⟨some 49,.mov (.s 12),some (48,false)⟩,⟨some 50,.mov (.s 10),some (48,false)⟩,⟨some 51,.bin .gtr (.s 49) (.s 50),some (48,false)⟩,⟨some 52,.pick (.s 48) (.c (.bool true)) (.s 51),none⟩])) (.cond (.s 52) (.seq (.reg false false [⟨none,.store 1 (.s 4) (.c (.bool false)),none⟩]) (.ret)) (.skip))) (.reg false false [⟨some 53,.mov (.s 10),none⟩,⟨some 54,.mov (.s 12),none⟩,⟨some 55,.bin .sub (.s 53) (.s 54),none⟩,⟨some 10,.mov (.s 55),none⟩])))) (.reg false false [⟨some 56,.bin .add (.s 42) (.c (.int .i64 1)),none⟩,⟨some 42,.mov (.s 56),none⟩])))))))) (.seq (.scope (.reg false false [⟨some 57,.mov (.s 9),none⟩,⟨some 58,.len (.s 57),none⟩,⟨some 59,.fld 0 (.s 3),none⟩,⟨some 60,.load none (.s 59),none⟩,⟨some 61,.bin .neq (.s 58) (.s 60),none⟩,⟨some 62,.mov (.s 61),none⟩,⟨some 63,.mov (.s 10),some (62,false)⟩,⟨some 64,.bin .neq (.s 63) (.c (.int .i64 0)),some (62,false)⟩,⟨some 65,.pick (.s 62) (.c (.bool true)) (.s 64),none⟩])) (.cond (.s 65) (.seq (.reg false false [⟨none,.store 1 (.s 4) (.c (.bool false)),none⟩]) (.ret)) (.skip)))))) rfl T12 (fun i a=>zaO p0 p1 ((zqV r7.rows).drop i)=some o12) (fun x L1=>match x with | .normal=>∃ a,o12=.go a∧L1=T12 a | .ret=>L1.length=3∧ze0 (3+1) L1∧(zcr [.cell 4 none] ((dB r))) .ret ⟨66,[(2,(.ptr 0 0)),(3,(.ptr 1 0)),(4,(.ptr 2 0)),(34,(.clo 156 [] [(.fptr false (zab.c false r7))]))],L1 ++ [.lost]⟩| _=>False) () ?_ (qaz _) ?_ ?_ ?_ (fun d L1 hx=>hx.elim) ?_ ?_ ?_ ?_ ?_ ?_
 ·intro a; rw[hT12]; rfl
 ·exact⟨(qaf rfl),(qaf rfl),(qaf rfl),⟨qdb,⟨qdb,qdb⟩⟩,qdb⟩
 ·intro a; rw[hT12]; exact⟨⟨qdb,qdb,qdb,qdb,qdb,qdb⟩,⟨qdb,qdb,qdb,qdb⟩,⟨qdb,qdb⟩,qdb⟩
 ·intro x L1 hx;cases x with
  | normal=>obtain⟨a,_,rfl⟩:=hx; exact⟨by rw[hT12]; rfl,by rw[hT12]; exact⟨⟨qdb,qdb,qdb,qdb,qdb,qdb⟩,⟨qdb,qdb,qdb,qdb⟩,⟨qdb,qdb⟩,qdb⟩⟩
  | ret=>exact⟨hx.1,hx.2.1⟩
  | exit id=>exact hx.elim
  | panic d=>exact hx.elim
 ·exact j12
 ·rintro i ⟨⟩ y11 args G lpF hy hi12 ⟨rfl,rfl⟩ hkin;rw[zgS hy]at hi12;simp only[zaO]at hi12;refine⟨_,_,rfl,rfl,?_⟩;rw[congrFun hT12 ()];refine zaa ?_;try simp only[rnA,Nat.reduceEqDiff,Nat.reduceLT,Nat.reduceAdd,zar,zat]
  obtain⟨o16,j16,hi12⟩:=bind_some hi12;obtain⟨T16,hT16⟩:=mkT fun a:Int=>⟨66,[(3,(.ptr 1 0)),(4,(.ptr 2 0)),(9,(fzE false (eI .i64) y11.2)),(10,(dI a))],[.cells [(dI p0.net.grain),(fzE false zab p0.net.nodes),(fzE false (eI .i64) p0.zad),(fzE false (eI .u64) p0.sets),(fzE false (eI .i64) p0.order)],.cells [(dI p1.zaE),(fzE false (eI .i64) p1.parents),(fzE false (eL (eI .i64)) p1.rows)],.cells [(dB false)],lpF]⟩
  refine EvL.jn T16 (fun a=>o16=.go a) ?_ ?_
  ·refine zaa ?_;simp only[rnA];obtain⟨T19,hT19⟩:=mkT fun a:(Int×Int)=>⟨66,[(3,(.ptr 1 0)),(4,(.ptr 2 0)),(9,(fzE false (eI .i64) y11.2)),(10,(dI a.1)),(40,(fzE false (eI .i64) y11.2)),(41,(dI (y11.2.length:Int))),(42,(dI a.2))],[.cells [(dI p0.net.grain),(fzE false zab p0.net.nodes),(fzE false (eI .i64) p0.zad),(fzE false (eI .u64) p0.sets),(fzE false (eI .i64) p0.order)],.cells [(dI p1.zaE),(fzE false (eI .i64) p1.parents),(fzE false (eL (eI .i64)) p1.rows)],.cells [(dB false)],lpF]⟩
   refine EvL.rounds (α:=(Int×Int)) T19 (fun n a=>zaW y11 n a.1 a.2=some o16) ((y11.2.length:Int) - 0+2:Int).toNat (p0.net.grain,0) (by rw[hT19]; exact zbC.mK (k0:=4) [.k,.k,.k,.k] rfl rfl (msq (msq (msq (msq (msq (msq (msq trivial))))))) ⟨MB.cs ⟨qdb,qdb,qdb,qdb,qdb,qdb⟩,⟨MB.cs ⟨qdb,qdb,qdb,qdb⟩,⟨MB.cs ⟨qdb,qdb⟩,⟨.same (hkin _ (by decide)),qdb⟩⟩⟩⟩) j16 (fun _ h=>nomatch (show(none:Option (Out Int Bool))=some o16 from h)) ?_;rintro n ⟨v10,v42⟩ j16;simp only[zaW]at j16;rw[congrFun hT19 (v10,v42)];refine zaa ?_;try simp only[rnA,Nat.reduceEqDiff,Nat.reduceLT]
   cases c12:(decide (v42<(y11.2.length:Int)))
   ·rw[c12,cond_false]at j16;try simp only[rnA,Nat.reduceEqDiff]
    replace j16:=qac j16; subst j16;exact⟨_,rfl,by rw[hT16]; exact zbC.mK (k0:=4) [.k,.k,.k,.k] rfl rfl (msq (msq (msq (msq trivial)))) ⟨MB.cs ⟨qdb,qdb,qdb,qdb,qdb,qdb⟩,⟨MB.cs ⟨qdb,qdb,qdb,qdb⟩,⟨MB.cs ⟨qdb,qdb⟩,⟨.same (hkin _ (by decide)),qdb⟩⟩⟩⟩⟩
   rw[c12,cond_true]at j16;obtain⟨x13,g14,j16⟩:=bind_some j16;try simp only[rnA,Nat.reduceEqDiff,Nat.reduceLT,zao (n:=1) (e:=(eI .i64)) rfl g14]
   obtain⟨o20,j20,j16⟩:=bind_some j16;obtain⟨T20,hT20⟩:=mkT fun a:Bool=>⟨66,[(3,(.ptr 1 0)),(4,(.ptr 2 0)),(9,(fzE false (eI .i64) y11.2)),(10,(dI v10)),(12,(dI x13)),(40,(fzE false (eI .i64) y11.2)),(41,(dI (y11.2.length:Int))),(42,(dI v42)),(52,(dB a))],[.cells [(dI p0.net.grain),(fzE false zab p0.net.nodes),(fzE false (eI .i64) p0.zad),(fzE false (eI .u64) p0.sets),(fzE false (eI .i64) p0.order)],.cells [(dI p1.zaE),(fzE false (eI .i64) p1.parents),(fzE false (eL (eI .i64)) p1.rows)],.cells [(dB false)],lpF]⟩
   refine EvL.jn T20 (fun a=>a=o20) ?_ ?_
   ·refine zaa ?_;try simp only[rnA,Nat.reduceEqDiff,Nat.reduceLT]
    cases c15:(decide (x13<0))
    ·rw[c15,cond_false]at j20;try simp only[rnA,Nat.reduceEqDiff,Nat.reduceLT]
     replace j20:=qac j20; subst j20;exact⟨_,rfl,by rw[hT20]; exact zbC.mK (k0:=4) [.k,.k,.k,.k] rfl rfl (msq (msq (msq (msq (msq (msq (msq (msq (msq trivial))))))))) ⟨MB.cs ⟨qdb,qdb,qdb,qdb,qdb,qdb⟩,⟨MB.cs ⟨qdb,qdb,qdb,qdb⟩,⟨MB.cs ⟨qdb,qdb⟩,⟨.same (hkin _ (by decide)),qdb⟩⟩⟩⟩⟩
    rw[c15,cond_true]at j20;try simp only[rnA,Nat.reduceEqDiff,Nat.reduceLT]
    replace j20:=qac j20; subst j20;exact⟨_,rfl,by rw[hT20]; exact zbC.mK (k0:=4) [.k,.k,.k,.k] rfl rfl (msq (msq (msq (msq (msq (msq (msq (msq (msq trivial))))))))) ⟨MB.cs ⟨qdb,qdb,qdb,qdb,qdb,qdb⟩,⟨MB.cs ⟨qdb,qdb,qdb,qdb⟩,⟨MB.cs ⟨qdb,qdb⟩,⟨.same (hkin _ (by decide)),qdb⟩⟩⟩⟩⟩
   rintro v52 rfl;rw[congrFun hT20 v52];refine zaa ?_;try simp only[rnA,Nat.reduceEqDiff]
   cases c16:v52
   ·rw[c16,cond_false]at j16;try simp only[rnA,Nat.reduceEqDiff,Nat.reduceLT]
    exact⟨((w64 (v10 - x13)),(w64 (v42+1))),j16,by rw[hT19]; exact zbC.mK (k0:=4) [.k,.k,.k,.k] rfl rfl (msq (msq (msq (msq (msq (msq (msq trivial))))))) ⟨MB.cs ⟨qdb,qdb,qdb,qdb,qdb,qdb⟩,⟨MB.cs ⟨qdb,qdb,qdb,qdb⟩,⟨MB.cs ⟨qdb,qdb⟩,⟨.same (hkin _ (by decide)),qdb⟩⟩⟩⟩⟩
   rw[c16,cond_true]at j16;try simp only[rnA,Nat.reduceEqDiff,Nat.reduceLeDiff]
   replace j16:=qac j16; subst j16;dsimp only at hi12;replace hi12:=qac hi12; subst hi12;dsimp only at h;replace h:=qac h; subst h;exact⟨[.cells [(dI p0.net.grain),(fzE false zab p0.net.nodes),(fzE false (eI .i64) p0.zad),(fzE false (eI .u64) p0.sets),(fzE false (eI .i64) p0.order)],.cells [(dI p1.zaE),(fzE false (eI .i64) p1.parents),(fzE false (eL (eI .i64)) p1.rows)],.cells [(dB false)]],rfl,zbC.mK [.k,.k,.k,.k] rfl rfl qdb ⟨MB.cs ⟨qdb,qdb,qdb,qdb,qdb,qdb⟩,⟨MB.cs ⟨qdb,qdb,qdb,qdb⟩,⟨MB.cs ⟨qdb,qdb⟩,⟨.same (hkin _ (by decide)),qdb⟩⟩⟩⟩,rfl,⟨⟨qdb,qdb,qdb,qdb,qdb,qdb⟩,⟨qdb,qdb,qdb,qdb⟩,⟨qdb,qdb⟩,qdb⟩,zcr.ret rfl (.lit _)⟩
  rintro v10 rfl;dsimp only at hi12;rw[congrFun hT16 v10];refine zaa ?_;try simp only[rnA]
  obtain⟨o21,j21,hi12⟩:=bind_some hi12;obtain⟨T21,hT21⟩:=mkT fun a:Bool=>⟨66,[(4,(.ptr 2 0)),(65,(dB a))],[.cells [(dI p0.net.grain),(fzE false zab p0.net.nodes),(fzE false (eI .i64) p0.zad),(fzE false (eI .u64) p0.sets),(fzE false (eI .i64) p0.order)],.cells [(dI p1.zaE),(fzE false (eI .i64) p1.parents),(fzE false (eL (eI .i64)) p1.rows)],.cells [(dB false)],lpF]⟩
  refine EvL.jn T21 (fun a=>a=o21) ?_ ?_
  ·refine zaa ?_;try simp only[rnA,Nat.reduceEqDiff,Nat.reduceLT,zat]
   cases c17:((y11.2.length:Int)== p1.zaE)
   ·rw[c17,cond_false]at j21;try simp only[rnA,Nat.reduceEqDiff,Nat.reduceLT]
    replace j21:=qac j21; subst j21;exact⟨_,rfl,by rw[hT21]; exact zbC.mK (k0:=4) [.k,.k,.k,.k] rfl rfl (msq (msq trivial)) ⟨MB.cs ⟨qdb,qdb,qdb,qdb,qdb,qdb⟩,⟨MB.cs ⟨qdb,qdb,qdb,qdb⟩,⟨MB.cs ⟨qdb,qdb⟩,⟨.same (hkin _ (by decide)),qdb⟩⟩⟩⟩⟩
   rw[c17,cond_true]at j21;try simp only[rnA,Nat.reduceEqDiff,Nat.reduceLT]
   replace j21:=qac j21; subst j21;exact⟨_,rfl,by rw[hT21]; exact zbC.mK (k0:=4) [.k,.k,.k,.k] rfl rfl (msq (msq trivial)) ⟨MB.cs ⟨qdb,qdb,qdb,qdb,qdb,qdb⟩,⟨MB.cs ⟨qdb,qdb,qdb,qdb⟩,⟨MB.cs ⟨qdb,qdb⟩,⟨.same (hkin _ (by decide)),qdb⟩⟩⟩⟩⟩
  rintro v65 rfl;rw[congrFun hT21 v65];refine zaa ?_;try simp only[rnA,Nat.reduceEqDiff]
  cases c18:v65
  ·rw[c18,cond_false]at hi12;try simp only[rnA]
   exact⟨T12 (),by rw[hT12]; rfl,by rw[hT12]; exact zbC.mK [.k,.k,.k,.k] rfl rfl qdb ⟨MB.cs ⟨qdb,qdb,qdb,qdb,qdb,qdb⟩,⟨MB.cs ⟨qdb,qdb,qdb,qdb⟩,⟨MB.cs ⟨qdb,qdb⟩,⟨.same (hkin _ (by decide)),qdb⟩⟩⟩⟩,(),hi12,rfl⟩
  rw[c18,cond_true]at hi12;try simp only[rnA,Nat.reduceEqDiff,Nat.reduceLeDiff]
  replace hi12:=qac hi12; subst hi12;dsimp only at h;replace h:=qac h; subst h;exact⟨[.cells [(dI p0.net.grain),(fzE false zab p0.net.nodes),(fzE false (eI .i64) p0.zad),(fzE false (eI .u64) p0.sets),(fzE false (eI .i64) p0.order)],.cells [(dI p1.zaE),(fzE false (eI .i64) p1.parents),(fzE false (eL (eI .i64)) p1.rows)],.cells [(dB false)]],rfl,zbC.mK [.k,.k,.k,.k] rfl rfl qdb ⟨MB.cs ⟨qdb,qdb,qdb,qdb,qdb,qdb⟩,⟨MB.cs ⟨qdb,qdb,qdb,qdb⟩,⟨MB.cs ⟨qdb,qdb⟩,⟨.same (hkin _ (by decide)),qdb⟩⟩⟩⟩,rfl,⟨⟨qdb,qdb,qdb,qdb,qdb,qdb⟩,⟨qdb,qdb,qdb,qdb⟩,⟨qdb,qdb⟩,qdb⟩,zcr.ret rfl (.lit _)⟩
 ·rintro⟨⟩ hi12;rw[qbh]at hi12;simp only[zaO]at hi12;exact⟨(),(qac hi12).symm,rfl⟩
 ·rintro _ ⟨⟨⟩,rfl,rfl⟩;dsimp only at h;rw[congrFun hT12 ()];refine zaa ?_;try simp only[rnA,Nat.reduceEqDiff,Nat.reduceLeDiff,zar]
  replace h:=qac h; subst h;exact zcr.ret rfl (.lit _)
 ·intro id L1 hx; exact hx.elim
 intro L1 hx; exact hx.2.2
def zck(p0:(List Int))(v5:Int)(C1:Nat):Nat→Int→(List Int)→Option (Out3 Unit (Int×(List Int)) ((List Int)×Bool))
 | 0,_,_=>none
 | n+1,v18,l0'=>(
bif (decide (v18<(p0.length:Int)))then(
(zaZ p0 v18).bind fun x5=>
(((ziT .u64 v5 v18).bind fun q7=>
bif ((zkO .u64 q7 1)== 0)then(
some (((zzL .u64 x5 v5)== 0),l0'))
else(
some (false,l0')):Option ((Bool×(List Int))))).bind fun o=>match o with
|(v33,l0'')=>(
bif v33 then(
(zod C1 l0'' [v18]).bind fun y11=>
(ztN .u64 1 v18).bind fun q13=>
some (.brk ((orI .u64 v5 q13),y11)))
else(
zck p0 v5 C1 n (w64 (v18+1)) l0'')))
else(
some (.go ())))
def zcp(p0:(List Int))(C1:Nat):Nat→Int→(List Int)→Option (Out (List Int) ((List Int)×Bool))
 | 0,_,_=>none
 | n+1,v5,l0=>(
bif (decide (((l0.length:Nat):Int)<(p0.length:Int)))then(
((zck p0 v5 C1 ((p0.length:Int) - 0+2:Int).toNat 0 l0:Option (Out3 Unit (Int×(List Int)) ((List Int)×Bool)))).bind fun o=>match o with
| .go _=>(
some (.ret ([],false)))
| .brk (v5',l0')=>(
zcp p0 C1 n v5' l0')
| .ret r=>some (.ret r))
else(
some (.go l0)))
def zdA(p0:(List Int)):Option ((List Int)×Bool):=
(zxT 8 (p0.length:Int)).bind fun C1=>
((zcp p0 C1 ((p0.length:Int) - ((([]:List Int).length:Nat):Int)+2:Int).toNat 0 ([]:List Int):Option (Out (List Int) ((List Int)×Bool)))).bind fun o=>match o with
| .go l0=>(
some (l0,true))
| .ret r=>some r
theorem zkE{p0:(List Int)}{r:((List Int)×Bool)}(h:zdA p0=some r):Lx.Fn mC 124 [(fzE false (eI .u64) p0)] (.tup [(fzE true (eI .i64) r.1),(dB r.2)]):=by
 refine fnO (by conv=>lhs; cbv) ?_;unfold zdA at h;refine zaa ?_;try simp only[rnA,Nat.reduceLT]
 refine EvL.scope (zaa ?_);obtain⟨C1,g2,h⟩:=bind_some h;try simp only[rnA,Nat.reduceEqDiff,Nat.reduceLT,reduceCtorEq,zat,(zkC g2).1.1,(zkC g2).1.2,(zkC g2).2,qbU,Int.toNat_zero,(show List.replicate C1 [(dI 0)]=(room [] C1 0).map ((eI .i64).c true)from ztM g2 0 ((eI .i64).c true))]
 obtain⟨o84,j84,h⟩:=bind_some h;obtain⟨T84,hT84⟩:=mkT fun a:(List Int)=>⟨44,[(4,(.sl 0 0 1 a.length (some C1) C1))],[.els 1 ((room a C1 0).map ((eI .i64).c true))]⟩
 refine EvL.jn T84 (fun a=>o84=.go a∧a.length≤C1) ?_ ?_
 ·refine zaa ?_;simp only[rnA];obtain⟨T103,hT103⟩:=mkT fun a:(Int×(List Int))=>⟨44,[(0,(fzE false (eI .u64) p0)),(4,(.sl 0 0 1 a.2.length (some C1) C1)),(5,(dU a.1))],[.els 1 ((room a.2 C1 0).map ((eI .i64).c true))]⟩
  refine EvL.rounds (α:=(Int×(List Int))) T103 (fun n a=>zcp p0 C1 n a.1 a.2=some o84∧a.2.length≤C1) ((p0.length:Int) - ((([]:List Int).length:Nat):Int)+2:Int).toNat (0,([]:List Int)) (by rw[hT103]; exact wm0 [.k] ⟨MB.es (eI .i64) true (room ([]:List Int) C1 0),qdb⟩) ⟨j84,(qaz _)⟩ (fun _ h=>nomatch (show(none:Option (Out (List Int) ((List Int)×Bool)))=some o84 from h.1)) ?_;rintro n ⟨v5,l0⟩ ⟨j84,el0⟩;simp only[zcp]at j84;rw[congrFun hT103 (v5,l0)];refine zaa ?_;try simp only[rnA,Nat.reduceEqDiff,Nat.reduceLT,reduceCtorEq,zhP el0 0,zat]
  cases c3:(decide (((l0.length:Nat):Int)<(p0.length:Int)))
  ·rw[c3,cond_false]at j84;try simp only[rnA]
   replace j84:=qac j84; subst j84;exact⟨_,⟨rfl,el0⟩,by rw[hT84]; exact wm0 [.k] ⟨MB.es (eI .i64) true (room l0 C1 0),qdb⟩⟩
  rw[c3,cond_true]at j84;try simp only[rnA,Nat.reduceEqDiff,Nat.reduceLT,reduceCtorEq,zat]
  obtain⟨o108,j108,j84⟩:=bind_some j84;obtain⟨T108,hT108⟩:=mkT fun a:Unit=>⟨44,[],[]⟩
  obtain⟨TB108,hTB108⟩:∃ T:(Int×(List Int))→LSt,T=(fun a=>⟨44,[(0,(fzE false (eI .u64) p0)),(4,(.sl 0 0 1 a.2.length (some C1) C1)),(5,(dU a.1))],[.els 1 ((room a.2 C1 0).map ((eI .i64).c true))]⟩):=⟨_,rfl⟩;refine EvL.jn2 (id:=1) T108 (fun a=>o108=.go a) TB108 (fun a=>o108=.brk a∧a.2.length≤C1) (fun id S hx=>by first | (rcases hx with⟨hx | hx,_⟩<;> cases hx)| exact hx.elim) ?_ ?_ ?_
  ·refine zaa ?_;simp only[rnA];obtain⟨T111,hT111⟩:=mkT fun a:(Int×(List Int))=>⟨44,[(0,(fzE false (eI .u64) p0)),(4,(.sl 0 0 1 a.2.length (some C1) C1)),(5,(dU v5)),(16,(fzE false (eI .u64) p0)),(17,(dI (p0.length:Int))),(18,(dI a.1))],[.els 1 ((room a.2 C1 0).map ((eI .i64).c true))]⟩
   refine EvL.rounds (α:=(Int×(List Int))) T111 (fun n a=>zck p0 v5 C1 n a.1 a.2=some o108∧a.2.length≤C1) ((p0.length:Int) - 0+2:Int).toNat (0,l0) (by rw[hT111]; exact wm0 [.k] ⟨MB.es (eI .i64) true (room l0 C1 0),qdb⟩) ⟨j108,el0⟩ (fun _ h=>nomatch (show(none:Option (Out3 Unit (Int×(List Int)) ((List Int)×Bool)))=some o108 from h.1)) ?_;rintro n ⟨v18,l0'⟩ ⟨j108,el0'⟩;simp only[zck]at j108;rw[congrFun hT111 (v18,l0')];refine zaa ?_;try simp only[rnA,Nat.reduceEqDiff,Nat.reduceLT,reduceCtorEq]
   cases c4:(decide (v18<(p0.length:Int)))
   ·rw[c4,cond_false]at j108;try simp only[rnA,Nat.reduceEqDiff]
    replace j108:=qac j108; subst j108;exact lfj hT108 rfl (wm0 [] (by exact trivial))
   rw[c4,cond_true]at j108;obtain⟨x5,g6,j108⟩:=bind_some j108;try simp only[rnA,Nat.reduceEqDiff,Nat.reduceLT,reduceCtorEq,zao (n:=1) (e:=(eI .u64)) rfl g6]
   obtain⟨o112,j112,j108⟩:=bind_some j108;obtain⟨T112,hT112⟩:=mkT fun a:(Bool×(List Int))=>⟨44,[(0,(fzE false (eI .u64) p0)),(4,(.sl 0 0 1 a.2.length (some C1) C1)),(5,(dU v5)),(6,(dI v18)),(16,(fzE false (eI .u64) p0)),(17,(dI (p0.length:Int))),(18,(dI v18)),(33,(dB a.1))],[.els 1 ((room a.2 C1 0).map ((eI .i64).c true))]⟩
   refine EvL.jn T112 (fun a=>a=o112∧a.2.length≤C1) ?_ ?_
   ·refine zaa ?_;obtain⟨q7,g8,j112⟩:=bind_some j112;try simp only[rnA,Nat.reduceEqDiff,Nat.reduceLT,reduceCtorEq,(zbB g8).1,(zbB g8).2]
    cases c9:((zkO .u64 q7 1)== 0)
    ·rw[c9,cond_false]at j112;try simp only[rnA,Nat.reduceEqDiff,Nat.reduceLT,reduceCtorEq]
     replace j112:=qac j112; subst j112;exact⟨_,⟨rfl,el0'⟩,by rw[hT112]; exact wm0 [.k] ⟨MB.es (eI .i64) true (room l0' C1 0),qdb⟩⟩
    rw[c9,cond_true]at j112;try simp only[rnA,Nat.reduceEqDiff,Nat.reduceLT,reduceCtorEq]
    replace j112:=qac j112; subst j112;exact⟨_,⟨rfl,el0'⟩,by rw[hT112]; exact wm0 [.k] ⟨MB.es (eI .i64) true (room l0' C1 0),qdb⟩⟩
   rintro⟨v33,l0''⟩ ⟨rfl,el0''⟩;dsimp only at j108;rw[congrFun hT112 (v33,l0'')];refine zaa ?_;try simp only[rnA,Nat.reduceEqDiff,reduceCtorEq]
   cases c10:v33
   ·rw[c10,cond_false]at j108;try simp only[rnA,Nat.reduceEqDiff,Nat.reduceLT,reduceCtorEq]
    exact⟨((w64 (v18+1)),l0''),⟨j108,el0''⟩,by rw[hT111]; exact wm0 [.k] ⟨MB.es (eI .i64) true (room l0'' C1 0),qdb⟩⟩
   rw[c10,cond_true]at j108;obtain⟨y11,g12,j108⟩:=bind_some j108;obtain⟨q13,g14,j108⟩:=bind_some j108;try simp only[rnA,Nat.reduceEqDiff,Nat.reduceLT,Nat.reduceAdd,Nat.reduceLeDiff,reduceCtorEq,zhP el0'' 0,(show l0''.length+1=y11.length from zlt g12),zpu g12,(show((room l0'' C1 0).map ((eI .i64).c true)).take l0''.length ++ [[(dI v18)]]++ ((room l0'' C1 0).map ((eI .i64).c true)).drop y11.length=(room y11 C1 0).map ((eI .i64).c true)from zqF g12 0 ((eI .i64).c true)),(zfL g14).1,(zfL g14).2]
   replace j108:=qac j108; subst j108;exact⟨_,⟨rfl,(zpu g12)⟩,by rw[hTB108]; exact wm0 [.k] ⟨MB.es (eI .i64) true (room y11 C1 0),qdb⟩⟩
  ·rintro⟨⟩ rfl;dsimp only at j84;rw[congrFun hT108 ()];refine zaa ?_;try simp only[rnA,Nat.reduceLT]
   replace j84:=qac j84; subst j84;dsimp only at h;replace h:=qac h; subst h;exact zcr.ret rfl (Snp.zeU (.cons (zap (eI .i64)) (.cons (.lit _) .nil)))
  rintro⟨v5',l0'⟩ ⟨rfl,el0'⟩;dsimp only at j84;rw[congrFun hTB108 (v5',l0')];refine zaa ?_;try simp only[rnA,reduceCtorEq]
  exact⟨(v5',l0'),⟨j84,el0'⟩,by rw[hT103]; exact wm0 [.k] ⟨MB.es (eI .i64) true (room l0' C1 0),qdb⟩⟩
 rintro l0 ⟨rfl,el0⟩;dsimp only at h;rw[congrFun hT84 l0];refine zaa ?_;try simp only[rnA,Nat.reduceEqDiff,Nat.reduceLT]
 replace h:=qac h; subst h;exact zcr.ret rfl (Snp.zeU (.cons (zuu (e:=(eI .i64)) (t:=true) (z:=0) rfl rfl el0 (fun _=>rfl)) (.cons (.lit _) .nil)))
def zcI(p0:S_api_Net):Nat→Int→Int→(List Int)→Option (Out (Int×(List Int)) (S_net_network×Int))
 | 0,_,_,_=>none
 | n+1,v5,v50,l2=>(
bif (decide (v50<(p0.nodes.length:Int)))then(
(zaZ p0.nodes v50).bind fun x10=>
((bif (decide (x10.zaE<1))then(
some true)
else(
some (decide (4<x10.zaE))):Option Bool)).bind fun v62=>
bif v62 then(
some (.ret ((S_net_network.mk (S_api_Net.mk 0 []) [] [] []),50)))
else(
(zaZ l2 v50).bind fun x14=>
(zfu l2 v50 x10.zaE).bind fun y16=>
zcI p0 n (w64 (v5 * x10.zaE)) (w64 (v50+1)) y16))
else(
some (.go (v5,l2))))
def zdm(x20:S_api_Node)(p0:S_api_Net)(v82:Int):Nat→Int→Int→(List Int)→Option (Out (List Int) (S_net_network×Int))
 | 0,_,_,_=>none
 | n+1,v10,v90,l3'=>(
bif (decide (v90<(x20.parents.length:Int)))then(
(zaZ x20.parents v90).bind fun x23=>
((bif (decide (x23≤v10))then(
some true)
else(
bif (decide ((p0.nodes.length:Int)≤x23))then(
some true)
else(
some (x23 == v82))):Option Bool)).bind fun v109=>
bif v109 then(
some (.ret ((S_net_network.mk (S_api_Net.mk 0 []) [] [] []),50)))
else(
(zaZ l3' v82).bind fun x28=>
(ztN .u64 1 x23).bind fun q30=>
(zfu l3' v82 (orI .u64 x28 q30)).bind fun y32=>
zdm x20 p0 v82 n x23 (w64 (v90+1)) y32))
else(
some (.go l3')))
def zcJ(p0:S_api_Net)(l2:(List Int)):Nat→Int→(List Int)→Option (Out (List Int) (S_net_network×Int))
 | 0,_,_=>none
 | n+1,v82,l3=>(
bif (decide (v82<(p0.nodes.length:Int)))then(
(zaZ p0.nodes v82).bind fun x20=>
((zdm x20 p0 v82 ((x20.parents.length:Int) - 0+2:Int).toNat (-1) 0 l3:Option (Out (List Int) (S_net_network×Int)))).bind fun o=>match o with
| .go l3'=>(
(zbq (S_net_network.mk p0 l2 l3' []) x20).bind fun r34=>
bif r34 then(
zcJ p0 l2 n (w64 (v82+1)) l3')
else(
some (.ret ((S_net_network.mk (S_api_Net.mk 0 []) [] [] []),50))))
| .ret r=>some (.ret r))
else(
some (.go l3)))
def zcP(p0:S_api_Net):Option (S_net_network×Int):=
((bif (decide (p0.grain<1))then(
some true)
else(
bif (decide (60<p0.grain))then(
some true)
else(
bif (decide ((p0.nodes.length:Int)<1))then(
some true)
else(
some (decide (8<(p0.nodes.length:Int)))))):Option Bool)).bind fun v34=>
bif v34 then(
some ((S_net_network.mk (S_api_Net.mk 0 []) [] [] []),50))
else(
(zet 8 (p0.nodes.length:Int) 0).bind fun y5=>
(zet 8 (p0.nodes.length:Int) 0).bind fun y7=>
((zcI p0 ((p0.nodes.length:Int) - 0+2:Int).toNat 1 0 y5:Option (Out (Int×(List Int)) (S_net_network×Int)))).bind fun o=>match o with
| .go (v5,l2)=>(
bif (decide (1024<v5))then(
some ((S_net_network.mk (S_api_Net.mk 0 []) [] [] []),50))
else(
((zcJ p0 l2 ((p0.nodes.length:Int) - 0+2:Int).toNat 0 y7:Option (Out (List Int) (S_net_network×Int)))).bind fun o=>match o with
| .go l3=>(
(zdA l3).bind fun r37=>
bif r37.2 then(
some ((S_net_network.mk p0 l2 l3 r37.1),0))
else(
some ((S_net_network.mk (S_api_Net.mk 0 []) [] [] []),50)))
| .ret r=>some r))
| .ret r=>some r)
def zjB:C:=
 .seq (rg [oW 1 0,
 ⟨some 2,.alloc [(.int .i64 0),(.slice none 0 0),(.slice none 0 0),(.slice none 0 0),(.slice none 0 0)],none⟩,
 oK 3 0])
 (.seq (.seq (.scope (rg [oF 15 0 1,
 oL 16 15,
 oD 17 .lss 16 1,
 oM 18 17,
 oFg 19 0 1 18 false,
 oLg 20 19 18 false,
 oDg 21 .gtr 20 60 18 false,
 oP 22 18 21,
 oM 23 22,
 oFg 24 1 1 23 false,
 oLg 25 24 23 false,
 ⟨some 26,.len (.s 25),some (23,false)⟩,
 oDg 27 .lss 26 1 23 false,
 oP 28 23 27,
 oM 29 28,
 oFg 30 1 1 29 false,
 oLg 31 30 29 false,
 ⟨some 32,.len (.s 31),some (29,false)⟩,
 oDg 33 .gtr 32 8 29 false,
 oP 34 29 33]))
 (.cond (.s 34) (.seq (rg [⟨some 35,.build [(.int .i64 0),(.slice none 0 0),(.slice none 0 0),(.slice none 0 0),(.slice none 0 0)] [],none⟩,
 oS 5 2 35,
 oK 3 50])
 (.ret))
 (.skip)))
 (.seq (.reg true false [oN 36 2 1,
 oF 37 1 1,
 oL 38 37,
 oE 39 38,
 oF 41 1 1,
 oL 42 41,
 oE 43 42,
 ⟨some 40,.mk 1 8 [(.int .i64 0)] (.s 39) (.s 39),none⟩,
 ⟨some 44,.mk 1 8 [(.int .u64 0)] (.s 43) (.s 43),none⟩,
 ⟨some 45,.build [(.int .i64 0),(.slice none 0 0),(.slice none 0 0),(.slice none 0 0),(.slice none 0 0)] [(0,2,(.s 36)),(2,1,(.s 40)),(3,1,(.s 44))],none⟩,
 ⟨some 4,.alloc [(.int .i64 0),(.slice none 0 0),(.slice none 0 0),(.slice none 0 0),(.slice none 0 0)],none⟩,
 oS 5 4 45])
 (.seq (rg [oK 5 1])
 (.seq (.seq (rg [oF 46 0 4,
 oF 47 1 46,
 oL 48 47,
 oE 49 48,
 oK 50 0])
 (.scope (.block 0 (.loop (.seq (rg [oB 51 .lss 50 49])
 (.seq (.cond (.s 51) (.skip)
 (.exit 0))
 (.seq (.block 1 (.seq (rg [oM 52 50,
 oI 53 3 48 50,
 oN 54 3 53,
 ⟨some 7,.alloc [(.int .i64 0),(.slice none 0 0),(.slice none 0 0)],none⟩,
 oM 6 52,
 oS 3 7 54])
 (.seq (.seq (.scope (rg [oF 55 0 7,
 oL 56 55,
 oD 57 .lss 56 1,
 oM 58 57,
 oFg 59 0 7 58 false,
 oLg 60 59 58 false,
 oDg 61 .gtr 60 4 58 false,
 oP 62 58 61]))
 (.cond (.s 62) (.seq (rg [⟨some 63,.build [(.int .i64 0),(.slice none 0 0),(.slice none 0 0),(.slice none 0 0),(.slice none 0 0)] [],none⟩,
 oS 5 2 63,
 oK 3 50])
 (.ret))
 (.skip)))
 (.seq (rg [oF 64 2 4,
 oL 65 64,
 oM 66 6,
 oF 67 0 7,
 oL 68 67,
 oI 69 1 65 66,
 oS 1 69 68])
 (rg [oM 70 5,
 oF 71 0 7,
 oL 72 71,
 oB 73 .mul 70 72,
 oM 5 73])))))
 (rg [oD 74 .add 50 1,
 oM 50 74]))))))))
 (.seq (.seq (rg [oM 75 5,
 oD 76 .gtr 75 1024])
 (.cond (.s 76) (.seq (rg [⟨some 77,.build [(.int .i64 0),(.slice none 0 0),(.slice none 0 0),(.slice none 0 0),(.slice none 0 0)] [],none⟩,
 oS 5 2 77,
 oK 3 50])
 (.ret))
 (.skip)))
 (.seq (.seq (rg [oF 78 0 4,
 oF 79 1 78,
 oL 80 79,
 oE 81 80,
 oK 82 0])
 (.scope (.block 2 (.loop (.seq (rg [oB 83 .lss 82 81])
 (.seq (.cond (.s 83) (.skip)
 (.exit 2))
 (.seq (.block 3 (.seq (rg [oM 84 82,
 oI 85 3 80 82,
 oN 86 3 85,
 ⟨some 9,.alloc [(.int .i64 0),(.slice none 0 0),(.slice none 0 0)],none⟩,
 oM 8 84,
 oS 3 9 86])
 (.seq (rg [⟨some 10,.mov (.c (.int .i64 (-1))),none⟩])
 (.seq (.seq (rg [oF 87 1 9,
 oL 88 87,
 oE 89 88,
 oK 90 0])
 (.scope (.block 4 (.loop (.seq (rg [oB 91 .lss 90 89])
 (.seq (.cond (.s 91) (.skip)
 (.exit 4))
 (.seq (.block 5 (.seq (rg [oI 92 1 88 90,
 oL 93 92,
 oM 12 93])
 (.seq (.seq (.scope (rg [oM 94 12,
 oM 95 10,
 oB 96 .leq 94 95,
 oM 97 96,
 oMg 98 12 97 false,
 oFg 99 0 4 97 false,
 oFg 100 1 99 97 false,
 oLg 101 100 97 false,
 ⟨some 102,.len (.s 101),some (97,false)⟩,
 ⟨some 103,.bin .geq (.s 98) (.s 102),some (97,false)⟩,
 oP 104 97 103,
 oM 105 104,
 oMg 106 12 105 false,
 oMg 107 8 105 false,
 ⟨some 108,.bin .eql (.s 106) (.s 107),some (105,false)⟩,
 oP 109 105 108]))
 (.cond (.s 109) (.seq (rg [⟨some 110,.build [(.int .i64 0),(.slice none 0 0),(.slice none 0 0),(.slice none 0 0),(.slice none 0 0)] [],none⟩,
 oS 5 2 110,
 oK 3 50])
 (.ret))
 (.skip)))
 (.seq (rg [oM 111 12,
 oM 10 111])
 (.reg true false [oF 112 3 4,
 oL 113 112,
 oM 114 8,
 oI 115 1 113 114,
 oL 116 115,
 oM 117 12,
 ⟨some 118,.bin .shl (.c (.int .u64 1)) (.s 117),none⟩,
 oB 119 .or 116 118,
 oI 120 1 113 114,
 oS 1 120 119])))))
 (rg [oD 121 .add 90 1,
 oM 90 121]))))))))
 (.seq (rg [oN 122 5 4,
 oN 123 3 9,
 oV 124 123 122 123,
 ⟨some 125,.un .not (.s 124),none⟩])
 (.cond (.s 125) (.seq (rg [⟨some 126,.build [(.int .i64 0),(.slice none 0 0),(.slice none 0 0),(.slice none 0 0),(.slice none 0 0)] [],none⟩,
 oS 5 2 126,
 oK 3 50])
 (.ret))
 (.skip)))))))
 (rg [oD 127 .add 82 1,
 oM 82 127]))))))))
 (.seq (rg [oF 129 3 4,
 oL 130 129,
 oU 131 124 130,
 oM 128 131,
 oX 132 128 0,
 oX 133 128 1,
 oM 13 132,
 oM 14 133])
 (.seq (.seq (rg [oM 134 14,
 ⟨some 135,.un .not (.s 134),none⟩])
 (.cond (.s 135) (.seq (rg [⟨some 136,.build [(.int .i64 0),(.slice none 0 0),(.slice none 0 0),(.slice none 0 0),(.slice none 0 0)] [],none⟩,
 oS 5 2 136,
 oK 3 50])
 (.ret))
 (.skip)))
 (.seq (rg [oM 137 13,
 oF 138 4 4,
 oS 1 138 137])
 (.seq (rg [oN 139 5 4,
 oS 5 2 139,
 oK 3 0])
 (.ret)))))))))))
theorem zlE:ziU mC 77=some (140,zjB,[.cell 2 (some 5),.tmp 3],false):=zbu (by kernel_rfl)
theorem zeN{p0:S_api_Net}{r:(S_net_network×Int)}(h:zcP p0=some r):Lx.FnA mC 77 [(.agg [(dI p0.grain),(fzE false zab p0.nodes)])] (.tup [(.agg [(dI r.1.net.grain),(fzE false zab r.1.net.nodes),(fzE false (eI .i64) r.1.zad),(fzE false (eI .u64) r.1.sets),(fzE false (eI .i64) r.1.order)]),(dI r.2)]):=by
 refine FnA.of zlE (zbo rfl) (qaf rfl) ?_;unfold zcP at h;simp only[zjB,zjR];refine zaa ?_;try simp only[rnA,Nat.reduceLT]
 obtain⟨o1,j1,h⟩:=bind_some h;obtain⟨T1,hT1⟩:=mkT fun a:Bool=>⟨140,[(1,(.ptr 0 0)),(2,(.ptr 1 0)),(34,(dB a))],[.cells [(dI p0.grain),(fzE false zab p0.nodes)],.cells [(dI 0),zaU,zaU,zaU,zaU]]⟩
 refine EvL.jn T1 (fun a=>a=o1) ?_ ?_
 ·refine zaa ?_;try simp only[rnA,Nat.reduceEqDiff,Nat.reduceLT,reduceCtorEq]
  cases c1:(decide (p0.grain<1))
  ·rw[c1,cond_false]at j1;try simp only[rnA,Nat.reduceEqDiff,Nat.reduceLT,reduceCtorEq]
   cases c2:(decide (60<p0.grain))
   ·rw[c2,cond_false]at j1;try simp only[rnA,Nat.reduceEqDiff,Nat.reduceLT,reduceCtorEq,zat]
    cases c3:(decide ((p0.nodes.length:Int)<1))
    ·rw[c3,cond_false]at j1;try simp only[rnA,Nat.reduceEqDiff,Nat.reduceLT,reduceCtorEq,zat]
     replace j1:=qac j1; subst j1;exact lfj hT1 rfl (wm0 [.k,.k] ⟨MB.cs ⟨qdb,qdb,qdb⟩,⟨MB.cs ⟨qdb,qdb,qdb,qdb,qdb,qdb⟩,qdb⟩⟩)
    rw[c3,cond_true]at j1;try simp only[rnA,Nat.reduceEqDiff,Nat.reduceLT,reduceCtorEq]
    replace j1:=qac j1; subst j1;exact lfj hT1 rfl (wm0 [.k,.k] ⟨MB.cs ⟨qdb,qdb,qdb⟩,⟨MB.cs ⟨qdb,qdb,qdb,qdb,qdb,qdb⟩,qdb⟩⟩)
   rw[c2,cond_true]at j1;try simp only[rnA,Nat.reduceEqDiff,Nat.reduceLT,reduceCtorEq]
   replace j1:=qac j1; subst j1;exact lfj hT1 rfl (wm0 [.k,.k] ⟨MB.cs ⟨qdb,qdb,qdb⟩,⟨MB.cs ⟨qdb,qdb,qdb,qdb,qdb,qdb⟩,qdb⟩⟩)
  rw[c1,cond_true]at j1;try simp only[rnA,Nat.reduceEqDiff,Nat.reduceLT,reduceCtorEq]
  replace j1:=qac j1; subst j1;exact lfj hT1 rfl (wm0 [.k,.k] ⟨MB.cs ⟨qdb,qdb,qdb⟩,⟨MB.cs ⟨qdb,qdb,qdb,qdb,qdb,qdb⟩,qdb⟩⟩)
 rintro v34 rfl;rw[congrFun hT1 v34];refine zaa ?_;try simp only[rnA,Nat.reduceEqDiff]
 cases c4:v34
 ·rw[c4,cond_false]at h;obtain⟨y5,g6,h⟩:=bind_some h;obtain⟨y7,g8,h⟩:=bind_some h;try simp only[rnA,Nat.reduceEqDiff,Nat.reduceLT,Nat.reduceAdd,Nat.reduceLeDiff,zat,(zaC g6).1.1,(zaC g6).1.2,qbU,(show List.replicate (Int.toNat (p0.nodes.length:Int)) [(dI 0)]=y5.map ((eI .i64).c true)from zb2 g6 ((eI .i64).c true)),(show List.replicate (Int.toNat (p0.nodes.length:Int)) [(dU 0)]=y7.map ((eI .u64).c true)from zb2 g8 ((eI .u64).c true))]
  obtain⟨o5,j5,h⟩:=bind_some h;obtain⟨T5,hT5⟩:=mkT fun a:(Int×(List Int))=>⟨140,[(2,(.ptr 1 0)),(4,(.ptr 4 0)),(5,(dI a.1))],[.gone,.cells [(dI 0),zaU,zaU,zaU,zaU],.els 1 (a.2.map ((eI .i64).c true)),.els 1 (y7.map ((eI .u64).c true)),.cells [(dI p0.grain),(fzE false zab p0.nodes),(.sl 2 0 1 (Int.toNat (p0.nodes.length:Int)) (some (Int.toNat (p0.nodes.length:Int))) (Int.toNat (p0.nodes.length:Int))),(.sl 3 0 1 (Int.toNat (p0.nodes.length:Int)) (some (Int.toNat (p0.nodes.length:Int))) (Int.toNat (p0.nodes.length:Int))),zaU]]⟩
  refine EvL.jn T5 (fun a=>o5=.go a∧a.2.length=(Int.toNat (p0.nodes.length:Int))) ?_ ?_
  ·refine zaa ?_;simp only[rnA];obtain⟨T8,hT8⟩:=mkT fun a:(Int×Int×(List Int))=>⟨140,[(2,(.ptr 1 0)),(4,(.ptr 4 0)),(5,(dI a.1)),(48,(fzE false zab p0.nodes)),(49,(dI (p0.nodes.length:Int))),(50,(dI a.2.1))],[.gone,.cells [(dI 0),zaU,zaU,zaU,zaU],.els 1 (a.2.2.map ((eI .i64).c true)),.els 1 (y7.map ((eI .u64).c true)),.cells [(dI p0.grain),(fzE false zab p0.nodes),(.sl 2 0 1 (Int.toNat (p0.nodes.length:Int)) (some (Int.toNat (p0.nodes.length:Int))) (Int.toNat (p0.nodes.length:Int))),(.sl 3 0 1 (Int.toNat (p0.nodes.length:Int)) (some (Int.toNat (p0.nodes.length:Int))) (Int.toNat (p0.nodes.length:Int))),zaU]]⟩
   refine EvL.rounds (α:=(Int×Int×(List Int))) T8 (fun n a=>zcI p0 n a.1 a.2.1 a.2.2=some o5∧a.2.2.length=(Int.toNat (p0.nodes.length:Int))) ((p0.nodes.length:Int) - 0+2:Int).toNat (1,0,y5) (by rw[hT8]; exact wm0 [.d,.k,.k,.k,.k] ⟨rfl,⟨MB.cs ⟨qdb,qdb,qdb,qdb,qdb,qdb⟩,⟨MB.es (eI .i64) true y5,⟨MB.es (eI .u64) true y7,⟨MB.cs ⟨qdb,qdb,rfl,rfl,qdb,qdb⟩,qdb⟩⟩⟩⟩⟩) ⟨j5,zby g6⟩ (fun _ h=>nomatch (show(none:Option (Out (Int×(List Int)) (S_net_network×Int)))=some o5 from h.1)) ?_;rintro n ⟨v5,v50,l2⟩ ⟨j5,el2⟩;simp only[zcI]at j5;rw[congrFun hT8 (v5,v50,l2)];refine zaa ?_;try simp only[rnA,Nat.reduceEqDiff,Nat.reduceLT]
   cases c9:(decide (v50<(p0.nodes.length:Int)))
   ·rw[c9,cond_false]at j5;try simp only[rnA]
    replace j5:=qac j5; subst j5;exact⟨_,⟨rfl,el2⟩,by rw[hT5]; exact wm0 [.d,.k,.k,.k,.k] ⟨rfl,⟨MB.cs ⟨qdb,qdb,qdb,qdb,qdb,qdb⟩,⟨MB.es (eI .i64) true l2,⟨MB.es (eI .u64) true y7,⟨MB.cs ⟨qdb,qdb,rfl,rfl,qdb,qdb⟩,qdb⟩⟩⟩⟩⟩⟩
   rw[c9,cond_true]at j5;obtain⟨x10,g11,j5⟩:=bind_some j5;try simp only[rnA,Nat.reduceEqDiff,Nat.reduceLT,Nat.reduceAdd,Nat.reduceLeDiff,zar,zao (n:=3) (e:=zab) rfl g11]
   obtain⟨o9,j9,j5⟩:=bind_some j5;obtain⟨T9,hT9⟩:=mkT fun a:Bool=>⟨140,[(2,(.ptr 1 0)),(4,(.ptr 4 0)),(5,(dI v5)),(6,(dI v50)),(7,(.ptr 5 0)),(48,(fzE false zab p0.nodes)),(49,(dI (p0.nodes.length:Int))),(50,(dI v50)),(62,(dB a))],[.gone,.cells [(dI 0),zaU,zaU,zaU,zaU],.els 1 (l2.map ((eI .i64).c true)),.els 1 (y7.map ((eI .u64).c true)),.cells [(dI p0.grain),(fzE false zab p0.nodes),(.sl 2 0 1 (Int.toNat (p0.nodes.length:Int)) (some (Int.toNat (p0.nodes.length:Int))) (Int.toNat (p0.nodes.length:Int))),(.sl 3 0 1 (Int.toNat (p0.nodes.length:Int)) (some (Int.toNat (p0.nodes.length:Int))) (Int.toNat (p0.nodes.length:Int))),zaU],.cells [(dI x10.zaE),(fzE false (eI .i64) x10.parents),(fzE false (eL (eI .i64)) x10.rows)]]⟩
   refine EvL.jn T9 (fun a=>a=o9) ?_ ?_
   ·refine zaa ?_;try simp only[rnA,Nat.reduceEqDiff,Nat.reduceLT]
    cases c12:(decide (x10.zaE<1))
    ·rw[c12,cond_false]at j9;try simp only[rnA,Nat.reduceEqDiff,Nat.reduceLT]
     replace j9:=qac j9; subst j9;exact lfj hT9 rfl (wm0 [.d,.k,.k,.k,.k,.k] ⟨rfl,⟨MB.cs ⟨qdb,qdb,qdb,qdb,qdb,qdb⟩,⟨MB.es (eI .i64) true l2,⟨MB.es (eI .u64) true y7,⟨MB.cs ⟨qdb,qdb,rfl,rfl,qdb,qdb⟩,⟨MB.cs ⟨qdb,qdb,qdb,qdb⟩,qdb⟩⟩⟩⟩⟩⟩)
    rw[c12,cond_true]at j9;try simp only[rnA,Nat.reduceEqDiff,Nat.reduceLT]
    replace j9:=qac j9; subst j9;exact lfj hT9 rfl (wm0 [.d,.k,.k,.k,.k,.k] ⟨rfl,⟨MB.cs ⟨qdb,qdb,qdb,qdb,qdb,qdb⟩,⟨MB.es (eI .i64) true l2,⟨MB.es (eI .u64) true y7,⟨MB.cs ⟨qdb,qdb,rfl,rfl,qdb,qdb⟩,⟨MB.cs ⟨qdb,qdb,qdb,qdb⟩,qdb⟩⟩⟩⟩⟩⟩)
   rintro v62 rfl;rw[congrFun hT9 v62];refine zaa ?_;try simp only[rnA,Nat.reduceEqDiff]
   cases c13:v62
   ·rw[c13,cond_false]at j5;obtain⟨x14,g15,j5⟩:=bind_some j5;obtain⟨y16,g17,j5⟩:=bind_some j5;try simp only[rnA,Nat.reduceEqDiff,Nat.reduceLT,Nat.reduceLeDiff,el2,zbl g15,(show v50<(((Int.toNat (p0.nodes.length:Int)):Nat):Int)from el2 ▸ zbm g15),zaR g15 ((eI .i64).c true),(show(l2.map ((eI .i64).c true)).set v50.toNat [(dI x10.zaE)]=y16.map ((eI .i64).c true)from zbs g17 ((eI .i64).c true))]
    exact⟨((w64 (v5 * x10.zaE)),(w64 (v50+1)),y16),⟨j5,(zbg g17).trans el2⟩,by rw[hT8]; exact wm0 [.d,.k,.k,.k,.k] ⟨rfl,⟨MB.cs ⟨qdb,qdb,qdb,qdb,qdb,qdb⟩,⟨MB.es (eI .i64) true y16,⟨MB.es (eI .u64) true y7,⟨MB.cs ⟨qdb,qdb,rfl,rfl,qdb,qdb⟩,qdb⟩⟩⟩⟩⟩⟩
   rw[c13,cond_true]at j5;try simp only[rnA,Nat.reduceEqDiff,Nat.reduceLT,Nat.reduceAdd,Nat.reduceLeDiff]
   replace j5:=qac j5; subst j5;dsimp only at h;replace h:=qac h; subst h;exact zkd.ret rfl (Snp.zeU (.cons (.zd9 (.cons (.lit _) (.cons (zap zab) (.cons (zap (eI .i64)) (.cons (zap (eI .u64)) (.cons (zap (eI .i64)) .nil)))))) (.cons (.lit _) .nil)))
  rintro⟨v5,l2⟩ ⟨rfl,el2⟩;dsimp only at h;rw[congrFun hT5 (v5,l2)];refine zaa ?_;try simp only[rnA,Nat.reduceEqDiff,Nat.reduceLT]
  cases c18:(decide (1024<v5))
  ·rw[c18,cond_false]at h;try simp only[rnA,Nat.reduceEqDiff,Nat.reduceLT,zat]
   obtain⟨o34,j34,h⟩:=bind_some h;obtain⟨T34,hT34⟩:=mkT fun a:(List Int)=>⟨140,[(2,(.ptr 1 0)),(4,(.ptr 4 0))],[.gone,.cells [(dI 0),zaU,zaU,zaU,zaU],.els 1 (l2.map ((eI .i64).c true)),.els 1 (a.map ((eI .u64).c true)),.cells [(dI p0.grain),(fzE false zab p0.nodes),(.sl 2 0 1 (Int.toNat (p0.nodes.length:Int)) (some (Int.toNat (p0.nodes.length:Int))) (Int.toNat (p0.nodes.length:Int))),(.sl 3 0 1 (Int.toNat (p0.nodes.length:Int)) (some (Int.toNat (p0.nodes.length:Int))) (Int.toNat (p0.nodes.length:Int))),zaU]]⟩
   refine EvL.jn T34 (fun a=>o34=.go a∧a.length=(Int.toNat (p0.nodes.length:Int))) ?_ ?_
   ·refine zaa ?_;simp only[rnA];obtain⟨T51,hT51⟩:=mkT fun a:(Int×(List Int))=>⟨140,[(2,(.ptr 1 0)),(4,(.ptr 4 0)),(80,(fzE false zab p0.nodes)),(81,(dI (p0.nodes.length:Int))),(82,(dI a.1))],[.gone,.cells [(dI 0),zaU,zaU,zaU,zaU],.els 1 (l2.map ((eI .i64).c true)),.els 1 (a.2.map ((eI .u64).c true)),.cells [(dI p0.grain),(fzE false zab p0.nodes),(.sl 2 0 1 (Int.toNat (p0.nodes.length:Int)) (some (Int.toNat (p0.nodes.length:Int))) (Int.toNat (p0.nodes.length:Int))),(.sl 3 0 1 (Int.toNat (p0.nodes.length:Int)) (some (Int.toNat (p0.nodes.length:Int))) (Int.toNat (p0.nodes.length:Int))),zaU]]⟩
    refine EvL.rounds (α:=(Int×(List Int))) T51 (fun n a=>zcJ p0 l2 n a.1 a.2=some o34∧a.2.length=(Int.toNat (p0.nodes.length:Int))) ((p0.nodes.length:Int) - 0+2:Int).toNat (0,y7) (by rw[hT51]; exact wm0 [.d,.k,.k,.k,.k] ⟨rfl,⟨MB.cs ⟨qdb,qdb,qdb,qdb,qdb,qdb⟩,⟨MB.es (eI .i64) true l2,⟨MB.es (eI .u64) true y7,⟨MB.cs ⟨qdb,qdb,rfl,rfl,qdb,qdb⟩,qdb⟩⟩⟩⟩⟩) ⟨j34,zby g8⟩ (fun _ h=>nomatch (show(none:Option (Out (List Int) (S_net_network×Int)))=some o34 from h.1)) ?_;rintro n ⟨v82,l3⟩ ⟨j34,el3⟩;simp only[zcJ]at j34;rw[congrFun hT51 (v82,l3)];refine zaa ?_;try simp only[rnA,Nat.reduceEqDiff,Nat.reduceLT]
    cases c19:(decide (v82<(p0.nodes.length:Int)))
    ·rw[c19,cond_false]at j34;try simp only[rnA]
     replace j34:=qac j34; subst j34;exact⟨_,⟨rfl,el3⟩,by rw[hT34]; exact wm0 [.d,.k,.k,.k,.k] ⟨rfl,⟨MB.cs ⟨qdb,qdb,qdb,qdb,qdb,qdb⟩,⟨MB.es (eI .i64) true l2,⟨MB.es (eI .u64) true l3,⟨MB.cs ⟨qdb,qdb,rfl,rfl,qdb,qdb⟩,qdb⟩⟩⟩⟩⟩⟩
    rw[c19,cond_true]at j34;obtain⟨x20,g21,j34⟩:=bind_some j34;try simp only[rnA,Nat.reduceEqDiff,Nat.reduceLT,Nat.reduceAdd,Nat.reduceLeDiff,zar,zao (n:=3) (e:=zab) rfl g21,zat]
    obtain⟨o55,j55,j34⟩:=bind_some j34;obtain⟨T55,hT55⟩:=mkT fun a:(List Int)=>⟨140,[(2,(.ptr 1 0)),(4,(.ptr 4 0)),(9,(.ptr 5 0)),(80,(fzE false zab p0.nodes)),(81,(dI (p0.nodes.length:Int))),(82,(dI v82))],[.gone,.cells [(dI 0),zaU,zaU,zaU,zaU],.els 1 (l2.map ((eI .i64).c true)),.els 1 (a.map ((eI .u64).c true)),.cells [(dI p0.grain),(fzE false zab p0.nodes),(.sl 2 0 1 (Int.toNat (p0.nodes.length:Int)) (some (Int.toNat (p0.nodes.length:Int))) (Int.toNat (p0.nodes.length:Int))),(.sl 3 0 1 (Int.toNat (p0.nodes.length:Int)) (some (Int.toNat (p0.nodes.length:Int))) (Int.toNat (p0.nodes.length:Int))),zaU],.cells [(dI x20.zaE),(fzE false (eI .i64) x20.parents),(fzE false (eL (eI .i64)) x20.rows)]]⟩
    refine EvL.jn T55 (fun a=>o55=.go a∧a.length=(Int.toNat (p0.nodes.length:Int))) ?_ ?_
    ·refine zaa ?_;simp only[rnA];obtain⟨T58,hT58⟩:=mkT fun a:(Int×Int×(List Int))=>⟨140,[(2,(.ptr 1 0)),(4,(.ptr 4 0)),(8,(dI v82)),(9,(.ptr 5 0)),(10,(dI a.1)),(80,(fzE false zab p0.nodes)),(81,(dI (p0.nodes.length:Int))),(82,(dI v82)),(88,(fzE false (eI .i64) x20.parents)),(89,(dI (x20.parents.length:Int))),(90,(dI a.2.1))],[.gone,.cells [(dI 0),zaU,zaU,zaU,zaU],.els 1 (l2.map ((eI .i64).c true)),.els 1 (a.2.2.map ((eI .u64).c true)),.cells [(dI p0.grain),(fzE false zab p0.nodes),(.sl 2 0 1 (Int.toNat (p0.nodes.length:Int)) (some (Int.toNat (p0.nodes.length:Int))) (Int.toNat (p0.nodes.length:Int))),(.sl 3 0 1 (Int.toNat (p0.nodes.length:Int)) (some (Int.toNat (p0.nodes.length:Int))) (Int.toNat (p0.nodes.length:Int))),zaU],.cells [(dI x20.zaE),(fzE false (eI .i64) x20.parents),(fzE false (eL (eI .i64)) x20.rows)]]⟩
     refine EvL.rounds (α:=(Int×Int×(List Int))) T58 (fun n a=>zdm x20 p0 v82 n a.1 a.2.1 a.2.2=some o55∧a.2.2.length=(Int.toNat (p0.nodes.length:Int))) ((x20.parents.length:Int) - 0+2:Int).toNat ((-1),0,l3) (by rw[hT58]; exact wm0 [.d,.k,.k,.k,.k,.k] ⟨rfl,⟨MB.cs ⟨qdb,qdb,qdb,qdb,qdb,qdb⟩,⟨MB.es (eI .i64) true l2,⟨MB.es (eI .u64) true l3,⟨MB.cs ⟨qdb,qdb,rfl,rfl,qdb,qdb⟩,⟨MB.cs ⟨qdb,qdb,qdb,qdb⟩,qdb⟩⟩⟩⟩⟩⟩) ⟨j55,el3⟩ (fun _ h=>nomatch (show(none:Option (Out (List Int) (S_net_network×Int)))=some o55 from h.1)) ?_;rintro n ⟨v10,v90,l3'⟩ ⟨j55,el3'⟩;simp only[zdm]at j55;rw[congrFun hT58 (v10,v90,l3')];refine zaa ?_;try simp only[rnA,Nat.reduceEqDiff,Nat.reduceLT]
     cases c22:(decide (v90<(x20.parents.length:Int)))
     ·rw[c22,cond_false]at j55;try simp only[rnA,Nat.reduceEqDiff,Nat.reduceLT]
      replace j55:=qac j55; subst j55;exact⟨_,⟨rfl,el3'⟩,by rw[hT55]; exact wm0 [.d,.k,.k,.k,.k,.k] ⟨rfl,⟨MB.cs ⟨qdb,qdb,qdb,qdb,qdb,qdb⟩,⟨MB.es (eI .i64) true l2,⟨MB.es (eI .u64) true l3',⟨MB.cs ⟨qdb,qdb,rfl,rfl,qdb,qdb⟩,⟨MB.cs ⟨qdb,qdb,qdb,qdb⟩,qdb⟩⟩⟩⟩⟩⟩⟩
     rw[c22,cond_true]at j55;obtain⟨x23,g24,j55⟩:=bind_some j55;try simp only[rnA,Nat.reduceEqDiff,Nat.reduceLT,zao (n:=1) (e:=(eI .i64)) rfl g24]
     obtain⟨o59,j59,j55⟩:=bind_some j55;obtain⟨T59,hT59⟩:=mkT fun a:Bool=>⟨140,[(2,(.ptr 1 0)),(4,(.ptr 4 0)),(8,(dI v82)),(9,(.ptr 5 0)),(12,(dI x23)),(80,(fzE false zab p0.nodes)),(81,(dI (p0.nodes.length:Int))),(82,(dI v82)),(88,(fzE false (eI .i64) x20.parents)),(89,(dI (x20.parents.length:Int))),(90,(dI v90)),(109,(dB a))],[.gone,.cells [(dI 0),zaU,zaU,zaU,zaU],.els 1 (l2.map ((eI .i64).c true)),.els 1 (l3'.map ((eI .u64).c true)),.cells [(dI p0.grain),(fzE false zab p0.nodes),(.sl 2 0 1 (Int.toNat (p0.nodes.length:Int)) (some (Int.toNat (p0.nodes.length:Int))) (Int.toNat (p0.nodes.length:Int))),(.sl 3 0 1 (Int.toNat (p0.nodes.length:Int)) (some (Int.toNat (p0.nodes.length:Int))) (Int.toNat (p0.nodes.length:Int))),zaU],.cells [(dI x20.zaE),(fzE false (eI .i64) x20.parents),(fzE false (eL (eI .i64)) x20.rows)]]⟩
     refine EvL.jn T59 (fun a=>a=o59) ?_ ?_
     ·refine zaa ?_;try simp only[rnA,Nat.reduceEqDiff,Nat.reduceLT]
      cases c25:(decide (x23≤v10))
      ·rw[c25,cond_false]at j59;try simp only[rnA,Nat.reduceEqDiff,Nat.reduceLT,zat]
       cases c26:(decide ((p0.nodes.length:Int)≤x23))
       ·rw[c26,cond_false]at j59;try simp only[rnA,Nat.reduceEqDiff,Nat.reduceLT]
        replace j59:=qac j59; subst j59;exact lfj hT59 rfl (wm0 [.d,.k,.k,.k,.k,.k] ⟨rfl,⟨MB.cs ⟨qdb,qdb,qdb,qdb,qdb,qdb⟩,⟨MB.es (eI .i64) true l2,⟨MB.es (eI .u64) true l3',⟨MB.cs ⟨qdb,qdb,rfl,rfl,qdb,qdb⟩,⟨MB.cs ⟨qdb,qdb,qdb,qdb⟩,qdb⟩⟩⟩⟩⟩⟩)
       rw[c26,cond_true]at j59;try simp only[rnA,Nat.reduceEqDiff,Nat.reduceLT]
       replace j59:=qac j59; subst j59;exact lfj hT59 rfl (wm0 [.d,.k,.k,.k,.k,.k] ⟨rfl,⟨MB.cs ⟨qdb,qdb,qdb,qdb,qdb,qdb⟩,⟨MB.es (eI .i64) true l2,⟨MB.es (eI .u64) true l3',⟨MB.cs ⟨qdb,qdb,rfl,rfl,qdb,qdb⟩,⟨MB.cs ⟨qdb,qdb,qdb,qdb⟩,qdb⟩⟩⟩⟩⟩⟩)
      rw[c25,cond_true]at j59;try simp only[rnA,Nat.reduceEqDiff,Nat.reduceLT]
      replace j59:=qac j59; subst j59;exact lfj hT59 rfl (wm0 [.d,.k,.k,.k,.k,.k] ⟨rfl,⟨MB.cs ⟨qdb,qdb,qdb,qdb,qdb,qdb⟩,⟨MB.es (eI .i64) true l2,⟨MB.es (eI .u64) true l3',⟨MB.cs ⟨qdb,qdb,rfl,rfl,qdb,qdb⟩,⟨MB.cs ⟨qdb,qdb,qdb,qdb⟩,qdb⟩⟩⟩⟩⟩⟩)
     rintro v109 rfl;rw[congrFun hT59 v109];refine zaa ?_;try simp only[rnA,Nat.reduceEqDiff]
     cases c27:v109
     ·rw[c27,cond_false]at j55;obtain⟨x28,g29,j55⟩:=bind_some j55;obtain⟨q30,g31,j55⟩:=bind_some j55;obtain⟨y32,g33,j55⟩:=bind_some j55;try simp only[rnA,Nat.reduceEqDiff,Nat.reduceLT,Nat.reduceLeDiff,el3',zbl g29,(show v82<(((Int.toNat (p0.nodes.length:Int)):Nat):Int)from el3' ▸ zbm g29),zaR g29 ((eI .u64).c true),(zfL g31).1,(zfL g31).2,(show(l3'.map ((eI .u64).c true)).set v82.toNat [(dU (orI .u64 x28 q30))]=y32.map ((eI .u64).c true)from zbs g33 ((eI .u64).c true))]
      exact⟨(x23,(w64 (v90+1)),y32),⟨j55,(zbg g33).trans el3'⟩,by rw[hT58]; exact wm0 [.d,.k,.k,.k,.k,.k] ⟨rfl,⟨MB.cs ⟨qdb,qdb,qdb,qdb,qdb,qdb⟩,⟨MB.es (eI .i64) true l2,⟨MB.es (eI .u64) true y32,⟨MB.cs ⟨qdb,qdb,rfl,rfl,qdb,qdb⟩,⟨MB.cs ⟨qdb,qdb,qdb,qdb⟩,qdb⟩⟩⟩⟩⟩⟩⟩
     rw[c27,cond_true]at j55;try simp only[rnA,Nat.reduceEqDiff,Nat.reduceLT,Nat.reduceAdd,Nat.reduceLeDiff]
     replace j55:=qac j55; subst j55;dsimp only at j34;replace j34:=qac j34; subst j34;dsimp only at h;replace h:=qac h; subst h;exact zkd.ret rfl (Snp.zeU (.cons (.zd9 (.cons (.lit _) (.cons (zap zab) (.cons (zap (eI .i64)) (.cons (zap (eI .u64)) (.cons (zap (eI .i64)) .nil)))))) (.cons (.lit _) .nil)))
    rintro l3' ⟨rfl,el3'⟩;dsimp only at j34;rw[congrFun hT55 l3'];refine zaa ?_;obtain⟨r34,g35,j34⟩:=bind_some j34;try simp only[rnA,Nat.reduceEqDiff,Nat.reduceLT,Nat.reduceAdd,Nat.reduceLeDiff]
    refine EvL.fn (zfd g35) rfl rfl (.cons (.zd9 (.cons (.lit _) (.cons (zah _ _ (fun h=>nomatch h)) (.cons (zbD (e:=(eI .i64)) (t:=true) rfl (.inl rfl) (el2).symm (el2).symm (fun k h=>by cases h; exact qal _) (fun h=>nomatch h)) (.cons (zbD (e:=(eI .u64)) (t:=true) rfl (.inl rfl) (el3').symm (el3').symm (fun k h=>by cases h; exact qal _) (fun h=>nomatch h)) (.cons (zap (eI .i64)) .nil)))))) (.cons (.zd9 (.cons (.lit _) (.cons (zah _ _ (fun h=>nomatch h)) (.cons (zah _ _ (fun h=>nomatch h)) .nil)))) .nil)) ?_;try simp only[rnA,Nat.reduceEqDiff,Nat.reduceLT]
    cases c36:r34
    ·rw[c36,cond_false]at j34;try simp only[rnA,Nat.reduceEqDiff,Nat.reduceLT,Nat.reduceAdd,Nat.reduceLeDiff]
     replace j34:=qac j34; subst j34;dsimp only at h;replace h:=qac h; subst h;exact zkd.ret rfl (Snp.zeU (.cons (.zd9 (.cons (.lit _) (.cons (zap zab) (.cons (zap (eI .i64)) (.cons (zap (eI .u64)) (.cons (zap (eI .i64)) .nil)))))) (.cons (.lit _) .nil)))
    rw[c36,cond_true]at j34;try simp only[rnA,Nat.reduceEqDiff,Nat.reduceLT]
    exact⟨((w64 (v82+1)),l3'),⟨j34,el3'⟩,by rw[hT51]; exact wm0 [.d,.k,.k,.k,.k] ⟨rfl,⟨MB.cs ⟨qdb,qdb,qdb,qdb,qdb,qdb⟩,⟨MB.es (eI .i64) true l2,⟨MB.es (eI .u64) true l3',⟨MB.cs ⟨qdb,qdb,rfl,rfl,qdb,qdb⟩,qdb⟩⟩⟩⟩⟩⟩
   rintro l3 ⟨rfl,el3⟩;dsimp only at h;rw[congrFun hT34 l3];refine zaa ?_;obtain⟨r37,g38,h⟩:=bind_some h;try simp only[rnA,Nat.reduceEqDiff,Nat.reduceLT]
   refine EvL.fn (zkE g38) rfl rfl (.cons (zbD (e:=(eI .u64)) (t:=true) rfl (.inl rfl) (el3).symm (el3).symm (fun k h=>by cases h; exact qal _) (fun h=>nomatch h)) .nil) ?_;try simp only[rnA,Nat.reduceEqDiff,Nat.reduceLT]
   cases c39:r37.2
   ·rw[c39,cond_false]at h;try simp only[rnA,Nat.reduceEqDiff,Nat.reduceLT,Nat.reduceAdd,Nat.reduceLeDiff]
    replace h:=qac h; subst h;exact zkd.ret rfl (Snp.zeU (.cons (.zd9 (.cons (.lit _) (.cons (zap zab) (.cons (zap (eI .i64)) (.cons (zap (eI .u64)) (.cons (zap (eI .i64)) .nil)))))) (.cons (.lit _) .nil)))
   rw[c39,cond_true]at h;try simp only[rnA,Nat.reduceEqDiff,Nat.reduceLT,Nat.reduceAdd,Nat.reduceLeDiff]
   replace h:=qac h; subst h;exact zkd.ret rfl (Snp.zeU (.cons (.zd9 (.cons (.lit _) (.cons (zah _ _ (fun h=>nomatch h)) (.cons (zbD (e:=(eI .i64)) (t:=true) rfl (.inl rfl) (el2).symm (el2).symm (fun k h=>by cases h; exact qal _) (fun h=>nomatch h)) (.cons (zbD (e:=(eI .u64)) (t:=true) rfl (.inl rfl) (el3).symm (el3).symm (fun k h=>by cases h; exact qal _) (fun h=>nomatch h)) (.cons (zah _ _ (fun h=>nomatch h)) .nil)))))) (.cons (.lit _) .nil)))
  rw[c18,cond_true]at h;try simp only[rnA,Nat.reduceEqDiff,Nat.reduceLT,Nat.reduceAdd,Nat.reduceLeDiff]
  replace h:=qac h; subst h;exact zkd.ret rfl (Snp.zeU (.cons (.zd9 (.cons (.lit _) (.cons (zap zab) (.cons (zap (eI .i64)) (.cons (zap (eI .u64)) (.cons (zap (eI .i64)) .nil)))))) (.cons (.lit _) .nil)))
 rw[c4,cond_true]at h;try simp only[rnA,Nat.reduceEqDiff,Nat.reduceLT,Nat.reduceAdd,Nat.reduceLeDiff]
 replace h:=qac h; subst h;exact zkd.ret rfl (Snp.zeU (.cons (.zd9 (.cons (.lit _) (.cons (zap zab) (.cons (zap (eI .i64)) (.cons (zap (eI .u64)) (.cons (zap (eI .i64)) .nil)))))) (.cons (.lit _) .nil)))
def zcA(p0:(List Int))(p1:Int):Option ((List Int)×Int):=
(zbY p0).bind fun r1=>
bif r1.2 then(
((bif (decide (p1<0))then(
some true)
else(
some (decide (r1.1≤p1))):Option Bool)).bind fun v21=>
bif v21 then(
some ([],2))
else(
(zef p0 r1.1 p1).bind fun r6=>
(zbW (p0.length:Int) r6).bind fun r8=>
some (r8,0)))
else(
some ([],20))
theorem zig{p0:(List Int)}{p1:Int}{r:((List Int)×Int)}(h:zcA p0 p1=some r):Lx.Fn mC 113 [(fzE false (eI .i64) p0),(dI p1)] (.tup [(fzE true (eI .i64) r.1),(dI r.2)]):=by
 refine fnO (by conv=>lhs; cbv) ?_;unfold zcA at h;refine zaa ?_;obtain⟨r1,g2,h⟩:=bind_some h;try simp only[rnA,Nat.reduceLT,Nat.reduceAdd,reduceCtorEq]
 refine EvL.fn (zfW g2) rfl rfl (.cons (zah _ _ (fun h=>nomatch h)) .nil) ?_;try simp only[rnA,Nat.reduceEqDiff,Nat.reduceLT,reduceCtorEq]
 cases c3:r1.2
 ·rw[c3,cond_false]at h;try simp only[rnA,Nat.reduceLT]
  replace h:=qac h; subst h;exact zcr.ret rfl (Snp.zeU (.cons (zap (eI .i64)) (.cons (.lit _) .nil)))
 rw[c3,cond_true]at h;try simp only[rnA]
 obtain⟨o1,j1,h⟩:=bind_some h;obtain⟨T1,hT1⟩:=mkT fun a:Bool=>⟨29,[(0,(fzE false (eI .i64) p0)),(1,(dI p1)),(6,(dI r1.1)),(21,(dB a))],[]⟩
 refine EvL.jn T1 (fun a=>a=o1) ?_ ?_
 ·refine zaa ?_;try simp only[rnA,Nat.reduceEqDiff,Nat.reduceLT,reduceCtorEq]
  cases c4:(decide (p1<0))
  ·rw[c4,cond_false]at j1;try simp only[rnA,Nat.reduceEqDiff,Nat.reduceLT,reduceCtorEq]
   replace j1:=qac j1; subst j1;exact lfj hT1 rfl (wm0 [] (by exact trivial))
  rw[c4,cond_true]at j1;try simp only[rnA,Nat.reduceEqDiff,Nat.reduceLT,reduceCtorEq]
  replace j1:=qac j1; subst j1;exact lfj hT1 rfl (wm0 [] (by exact trivial))
 rintro v21 rfl;rw[congrFun hT1 v21];refine zaa ?_;try simp only[rnA,Nat.reduceEqDiff,reduceCtorEq]
 cases c5:v21
 ·rw[c5,cond_false]at h;obtain⟨r6,g7,h⟩:=bind_some h;try simp only[rnA,Nat.reduceEqDiff,Nat.reduceLT,reduceCtorEq,zat]
  refine EvL.fnS (zid g7) rfl rfl (.cons (zcC _ _ (fun h=>by cases h<;>contradiction)) (.cons (.lit _) (.cons (.lit _) .nil))) ⟨(zaJ _ _),qdb,qdb,qdb⟩ ⟨qdb,⟨⟨rfl,qdb,qdb⟩,⟨rfl,qdb,qdb⟩,⟨rfl,zaJ _ _,qdb⟩,qdb⟩⟩ ?_;obtain⟨r8,g9,h⟩:=bind_some h;try simp only[rnA,Nat.reduceLT]
  refine EvL.fn (zfQ g9) rfl rfl (.cons (.lit _) (.cons (.clo rfl rfl (Snps.get .nil) (Snps.get (.cons (.fptr (fun h=>nomatch h) rfl ((eI .i64).snp (t:=false) (t':=false) r6.2.2 (fun h=>nomatch h)).get) (.cons (.fptr (fun h=>nomatch h) rfl ((eI .i64).snp (t:=false) (t':=false) r6.2.1 (fun h=>nomatch h)).get) (.cons (.fptr (fun h=>nomatch h) rfl ((eL (eI .i64)).snp (t:=false) (t':=false) r6.1 (fun h=>nomatch h)).get) .nil))))) .nil)) ?_;try simp only[rnA,Nat.reduceEqDiff,Nat.reduceLT,reduceCtorEq]
  replace h:=qac h; subst h;exact zcr.ret rfl (Snp.zeU (.cons (zah _ _ (fun _=>rfl)) (.cons (.lit _) .nil)))
 rw[c5,cond_true]at h;try simp only[rnA,Nat.reduceLT]
 replace h:=qac h; subst h;exact zcr.ret rfl (Snp.zeU (.cons (zap (eI .i64)) (.cons (.lit _) .nil)))
def zch(p0:Int):Option Bool:=
some false
theorem zeS{p0:Int}{r:Bool}(h:zch p0=some r):Lx.Fn mC 163 [(dI p0)] (dB r):=by
 refine fnO (by conv=>lhs; cbv) ?_;unfold zch at h;refine zaa ?_;try simp only[rnA,Nat.reduceEqDiff,reduceIte,Nat.reduceLT,Nat.reduceAdd,Nat.reduceLeDiff,Nat.reduceMul,Nat.reduceSub,Int.reduceLE,Int.reduceLT,Int.reduceBEq,Nat.reduceBEq,reduceCtorEq]
 replace h:=qac h; subst h;exact zcr.ret rfl (.lit _)
def zcw(p0:Int)(p1:Int):Option Bool:=
(((zch p0).bind fun r1=>
bif r1 then(
(zch p1).bind fun r4=>
bif r4 then(
some (decide (p0<p1)))
else(
some true))
else(
some (decide (p0<p1))):Option Bool)).bind fun v4=>
some v4
theorem zh8{p0:Int}{p1:Int}{r:Bool}(h:zcw p0 p1=some r):Lx.Fn mC 145 [(dI p0),(dI p1)] (dB r):=by
 refine fnO (by conv=>lhs; cbv) ?_;unfold zcw at h;refine zaa ?_;try simp only[rnA,Nat.reduceEqDiff,reduceIte,Nat.reduceLT,Nat.reduceAdd,Nat.reduceLeDiff,Nat.reduceMul,Nat.reduceSub,Int.reduceLE,Int.reduceLT,Int.reduceBEq,Nat.reduceBEq,reduceCtorEq]
 obtain⟨o1,j1,h⟩:=bind_some h;obtain⟨T1,hT1⟩:=mkT fun a:Bool=>⟨17,[(4,(dB a))],[]⟩
 refine EvL.jn T1 (fun a=>a=o1) ?_ ?_
 ·refine zaa ?_;obtain⟨r1,g2,j1⟩:=bind_some j1;try simp only[rnA,Nat.reduceEqDiff,reduceIte,Nat.reduceLT,Nat.reduceAdd,Nat.reduceLeDiff,Nat.reduceMul,Nat.reduceSub,Int.reduceLE,Int.reduceLT,Int.reduceBEq,Nat.reduceBEq,reduceCtorEq]
  refine EvL.fn (zeS g2) rfl rfl (.cons (.lit _) .nil) ?_;try simp only[rnA,Nat.reduceEqDiff,reduceIte,Nat.reduceLT,Nat.reduceAdd,Nat.reduceLeDiff,Nat.reduceMul,Nat.reduceSub,Int.reduceLE,Int.reduceLT,Int.reduceBEq,Nat.reduceBEq,reduceCtorEq]
  cases c3:r1
  ·rw[c3,cond_false]at j1;try simp only[rnA,Nat.reduceEqDiff,reduceIte,Nat.reduceLT,Nat.reduceAdd,Nat.reduceLeDiff,Nat.reduceMul,Nat.reduceSub,Int.reduceLE,Int.reduceLT,Int.reduceBEq,Nat.reduceBEq,reduceCtorEq,c3]
   refine EvL.skip rfl ?_;try simp only[rnA,Nat.reduceEqDiff,reduceIte,Nat.reduceLT,Nat.reduceAdd,Nat.reduceLeDiff,Nat.reduceMul,Nat.reduceSub,Int.reduceLE,Int.reduceLT,Int.reduceBEq,Nat.reduceBEq,reduceCtorEq,c3]
   replace j1:=qac j1; subst j1;exact lfj hT1 rfl (wm0 [] (by exact trivial))
  rw[c3,cond_true]at j1;obtain⟨r4,g5,j1⟩:=bind_some j1;try simp only[rnA,Nat.reduceEqDiff,reduceIte,Nat.reduceLT,Nat.reduceAdd,Nat.reduceLeDiff,Nat.reduceMul,Nat.reduceSub,Int.reduceLE,Int.reduceLT,Int.reduceBEq,Nat.reduceBEq,reduceCtorEq,c3]
  refine EvL.fn (zeS g5) rfl rfl (.cons (.lit _) .nil) ?_;try simp only[rnA,Nat.reduceEqDiff,reduceIte,Nat.reduceLT,Nat.reduceAdd,Nat.reduceLeDiff,Nat.reduceMul,Nat.reduceSub,Int.reduceLE,Int.reduceLT,Int.reduceBEq,Nat.reduceBEq,reduceCtorEq,c3]
  cases c6:r4
  ·rw[c6,cond_false]at j1;try simp only[rnA,Nat.reduceEqDiff,reduceIte,Nat.reduceLT,Nat.reduceAdd,Nat.reduceLeDiff,Nat.reduceMul,Nat.reduceSub,Int.reduceLE,Int.reduceLT,Int.reduceBEq,Nat.reduceBEq,reduceCtorEq,c3,c6]
   replace j1:=qac j1; subst j1;exact lfj hT1 rfl (wm0 [] (by exact trivial))
  rw[c6,cond_true]at j1;try simp only[rnA,Nat.reduceEqDiff,reduceIte,Nat.reduceLT,Nat.reduceAdd,Nat.reduceLeDiff,Nat.reduceMul,Nat.reduceSub,Int.reduceLE,Int.reduceLT,Int.reduceBEq,Nat.reduceBEq,reduceCtorEq,c3,c6]
  replace j1:=qac j1; subst j1;exact lfj hT1 rfl (wm0 [] (by exact trivial))
 rintro v4 rfl;rw[congrFun hT1 v4];refine zaa ?_;try simp only[rnA,Nat.reduceEqDiff,reduceIte,Nat.reduceLT,Nat.reduceAdd,Nat.reduceLeDiff,Nat.reduceMul,Nat.reduceSub,Int.reduceLE,Int.reduceLT,Int.reduceBEq,Nat.reduceBEq,reduceCtorEq]
 replace h:=qac h; subst h;exact zcr.ret rfl (.lit _)
def zbF(p0:Int):Option Bool:=
some false
theorem zdP{p0:Int}{r:Bool}(h:zbF p0=some r):Lx.Fn mC 153 [(dI p0)] (dB r):=by
 refine fnO (by conv=>lhs; cbv) ?_;unfold zbF at h;refine zaa ?_;try simp only[rnA,Nat.reduceEqDiff,reduceIte,Nat.reduceLT,Nat.reduceAdd,Nat.reduceLeDiff,Nat.reduceMul,Nat.reduceSub,Int.reduceLE,Int.reduceLT,Int.reduceBEq,Nat.reduceBEq,reduceCtorEq]
 replace h:=qac h; subst h;exact zcr.ret rfl (.lit _)
def zas(p0:(List Int))(p1:Int):Nat→Int→Int→Option Int
 | 0,_,_=>none
 | n+1,v7,v8=>(
bif (decide (v7<v8))then(
(ziT .u64 (IntKind.u64.wrap (w64 (v7+v8))) 1).bind fun q2=>
(zaZ p0 (w64 q2)).bind fun x4=>
(zcw x4 p1).bind fun r6=>
bif r6 then(
zas p0 p1 n (w64 ((w64 q2)+1)) v8)
else(
zas p0 p1 n v7 (w64 q2)))
else(
some v7))
def zaF(p0:(List Int))(p1:Int):Option (Int×Bool):=
((zas p0 p1 ((p0.length:Int) - 0+2:Int).toNat 0 (p0.length:Int):Option Int)).bind fun v7=>
((bif (decide (v7<(p0.length:Int)))then(
(zaZ p0 v7).bind fun x10=>
bif (x10 == p1)then(
some true)
else(
(zbF x10).bind fun r13=>
bif r13 then(
(zbF p1).bind fun r16=>
some r16)
else(
some false)))
else(
some false):Option Bool)).bind fun v5=>
some (v7,v5)
theorem zdq{p0:(List Int)}{p1:Int}{r:(Int×Bool)}(h:zaF p0 p1=some r):Lx.Fn mC 125 [(fzE false (eI .i64) p0),(dI p1)] (.tup [(dI r.1),(dB r.2)]):=by
 refine fnO (by conv=>lhs; cbv) ?_;unfold zaF at h;refine zaa ?_;try simp only[rnA,Nat.reduceEqDiff,Nat.reduceLT,Nat.reduceAdd,reduceCtorEq,zat]
 obtain⟨o1,j1,h⟩:=bind_some h;obtain⟨T1,hT1⟩:=mkT fun a:Int=>⟨54,[(0,(fzE false (eI .i64) p0)),(1,(dI p1)),(6,(dI (p0.length:Int))),(7,(dI a))],[]⟩
 refine EvL.jn T1 (fun a=>a=o1) ?_ ?_
 ·refine zaa ?_;simp only[rnA];obtain⟨T2,hT2⟩:=mkT fun a:(Int×Int)=>⟨54,[(0,(fzE false (eI .i64) p0)),(1,(dI p1)),(6,(dI (p0.length:Int))),(7,(dI a.1)),(8,(dI a.2))],[]⟩
  refine EvL.rounds (α:=(Int×Int)) T2 (fun n a=>zas p0 p1 n a.1 a.2=some o1) ((p0.length:Int) - 0+2:Int).toNat (0,(p0.length:Int)) (by rw[hT2]; exact wm0 [] (by exact trivial)) j1 (fun _ h=>nomatch (show(none:Option Int)=some o1 from h)) ?_;rintro n ⟨v7,v8⟩ j1;simp only[zas]at j1;rw[congrFun hT2 (v7,v8)];refine zaa ?_;try simp only[rnA,Nat.reduceEqDiff,Nat.reduceLT,reduceCtorEq]
  cases c1:(decide (v7<v8))
  ·rw[c1,cond_false]at j1;try simp only[rnA]
   replace j1:=qac j1; subst j1;exact lfj hT1 rfl (wm0 [] (by exact trivial))
  rw[c1,cond_true]at j1;obtain⟨q2,g3,j1⟩:=bind_some j1;obtain⟨x4,g5,j1⟩:=bind_some j1;obtain⟨r6,g7,j1⟩:=bind_some j1;try simp only[rnA,Nat.reduceEqDiff,Nat.reduceLT,reduceCtorEq,(zbB g3).1,(zbB g3).2,zao (n:=1) (e:=(eI .i64)) rfl g5]
  refine EvL.fn (zh8 g7) rfl rfl (.cons (.lit _) (.cons (.lit _) .nil)) ?_;try simp only[rnA,Nat.reduceEqDiff,Nat.reduceLT,reduceCtorEq]
  cases c8:r6
  ·rw[c8,cond_false]at j1;try simp only[rnA,Nat.reduceEqDiff,Nat.reduceLT,reduceCtorEq]
   exact⟨(v7,(w64 q2)),j1,by rw[hT2]; exact wm0 [] (by exact trivial)⟩
  rw[c8,cond_true]at j1;try simp only[rnA,Nat.reduceEqDiff,Nat.reduceLT,reduceCtorEq]
  exact⟨((w64 ((w64 q2)+1)),v8),j1,by rw[hT2]; exact wm0 [] (by exact trivial)⟩
 rintro v7 rfl;rw[congrFun hT1 v7];refine zaa ?_;try simp only[rnA]
 obtain⟨o3,j3,h⟩:=bind_some h;obtain⟨T3,hT3⟩:=mkT fun a:Bool=>⟨54,[(4,(dI v7)),(5,(dB a))],[]⟩
 refine EvL.jn T3 (fun a=>a=o3) ?_ ?_
 ·refine zaa ?_;try simp only[rnA,Nat.reduceEqDiff,Nat.reduceLT,reduceCtorEq]
  cases c9:(decide (v7<(p0.length:Int)))
  ·rw[c9,cond_false]at j3;try simp only[rnA,Nat.reduceEqDiff,Nat.reduceLT,reduceCtorEq]
   refine EvL.skip rfl ?_;try simp only[rnA,Nat.reduceEqDiff,Nat.reduceLT,reduceCtorEq]
   refine EvL.skip rfl ?_;try simp only[rnA,Nat.reduceEqDiff,Nat.reduceLT,reduceCtorEq]
   replace j3:=qac j3; subst j3;exact lfj hT3 rfl (wm0 [] (by exact trivial))
  rw[c9,cond_true]at j3;obtain⟨x10,g11,j3⟩:=bind_some j3;try simp only[rnA,Nat.reduceEqDiff,Nat.reduceLT,reduceCtorEq,zao (n:=1) (e:=(eI .i64)) rfl g11]
  cases c12:(x10 == p1)
  ·rw[c12,cond_false]at j3;obtain⟨r13,g14,j3⟩:=bind_some j3;try simp only[rnA,Nat.reduceEqDiff,Nat.reduceLT,reduceCtorEq,zao (n:=1) (e:=(eI .i64)) rfl g11]
   refine EvL.fn (zdP g14) rfl rfl (.cons (.lit _) .nil) ?_;try simp only[rnA,Nat.reduceEqDiff,Nat.reduceLT,reduceCtorEq]
   cases c15:r13
   ·rw[c15,cond_false]at j3;try simp only[rnA,Nat.reduceLT]
    refine EvL.skip rfl ?_;try simp only[rnA,Nat.reduceEqDiff,Nat.reduceLT,reduceCtorEq]
    replace j3:=qac j3; subst j3;exact lfj hT3 rfl (wm0 [] (by exact trivial))
   rw[c15,cond_true]at j3;obtain⟨r16,g17,j3⟩:=bind_some j3;try simp only[rnA,Nat.reduceEqDiff,Nat.reduceLT,reduceCtorEq]
   refine EvL.fn (zdP g17) rfl rfl (.cons (.lit _) .nil) ?_;try simp only[rnA,Nat.reduceEqDiff,Nat.reduceLT,reduceCtorEq]
   replace j3:=qac j3; subst j3;exact lfj hT3 rfl (wm0 [] (by exact trivial))
  rw[c12,cond_true]at j3;try simp only[rnA,Nat.reduceEqDiff,Nat.reduceLT,reduceCtorEq]
  refine EvL.skip rfl ?_;try simp only[rnA,Nat.reduceEqDiff,Nat.reduceLT,reduceCtorEq]
  refine EvL.skip rfl ?_;try simp only[rnA,Nat.reduceEqDiff,Nat.reduceLT,reduceCtorEq]
  replace j3:=qac j3; subst j3;exact lfj hT3 rfl (wm0 [] (by exact trivial))
 rintro v5 rfl;rw[congrFun hT3 v5];refine zaa ?_;try simp only[rnA]
 replace h:=qac h; subst h;exact zcr.ret rfl (Snp.zeU (.cons (.lit _) (.cons (.lit _) .nil)))
def zaN(y7:(List Int))(p0:S_net_network)(r3:(Int×Bool)):Nat→Int→Int→(List Int)→Option (Int×(List Int))
 | 0,_,_,_=>none
 | n+1,v40,b6_0,l7=>(
bif (decide (v40<((y7.length:Nat):Int)))then(
(zaZ y7 v40).bind fun x10=>
(zaZ p0.zad x10).bind fun x12=>
(zdY 8 l7 [x12]).bind fun y14=>
((bif (decide (r3.1<v40))then(
some (w64 (b6_0 * x12)))
else(
some b6_0):Option Int)).bind fun b6_0'=>
zaN y7 p0 r3 n (w64 (v40+1)) b6_0' y14)
else(
some (b6_0,l7)))
def zaP(y23:(Int×(List Int)))(b6_0:Int)(x1:S_api_Node):Nat→Int→(List Int)→Option (List Int)
 | 0,_,_=>none
 | n+1,v80,l8'=>(
bif (decide (v80<(y23.2.length:Int)))then(
(zaZ y23.2 v80).bind fun x25=>
(zo2 .i64 y23.1 b6_0).bind fun q27=>
(znC y23.1 b6_0).bind fun q29=>
(zaZ l8' (w64 ((w64 ((w64 ((w64 (q27 * x1.zaE))+v80))* b6_0))+q29))).bind fun x31=>
(zfu l8' (w64 ((w64 ((w64 ((w64 (q27 * x1.zaE))+v80))* b6_0))+q29)) x25).bind fun y33=>
zaP y23 b6_0 x1 n (w64 (v80+1)) y33)
else(
some l8'))
def zaM(b6_0:Int)(x1:S_api_Node):List (Int×(List Int))→(List Int)→Option (List Int)
 | [],l8=>some l8
 | y23 :: ys,l8=>(
((zaP y23 b6_0 x1 ((y23.2.length:Int) - 0+2:Int).toNat 0 l8:Option (List Int))).bind fun l8'=>
zaM b6_0 x1 ys l8')
def zbr(p0:S_net_network)(p1:Int):Option S_api_Factor:=
(zaZ p0.net.nodes p1).bind fun x1=>
(zaF x1.parents p1).bind fun r3=>
(zeP 8 x1.parents).bind fun y5=>
(zwj 8 y5 r3.1 [p1]).bind fun y7=>
((zaN y7 p0 r3 (((y7.length:Nat):Int) - 0+2:Int).toNat 0 1 []:Option ((Int×(List Int))))).bind fun o=>match o with
|(b6_0,l7)=>(
(zet 8 (w64 ((x1.rows.length:Int)* x1.zaE)) 0).bind fun y17=>
(zeq x1).bind fun r19=>
(zd3 r19.rows).bind fun u21=>
((zaM b6_0 x1 (zqV r19.rows) y17:Option (List Int))).bind fun l8=>
some (S_api_Factor.mk y7 l7 l8))
def zdD:C:=
 .seq (rg [oW 2 0,
 ⟨some 4,.alloc [(.slice none 0 0),(.slice none 0 0),(.slice none 0 0)],none⟩])
 (.seq (rg [oF 16 0 2,
 oF 17 1 16,
 oL 18 17,
 oM 19 1,
 oI 20 3 18 19,
 oN 21 3 20,
 ⟨some 5,.alloc [(.int .i64 0),(.slice none 0 0),(.slice none 0 0)],none⟩,
 oS 3 5 21])
 (.seq (rg [oF 23 1 5,
 oL 24 23,
 oM 25 1,
 oV 26 125 24 25,
 oM 22 26,
 oX 27 22 0,
 oX 28 22 1,
 oM 6 27,
 oM 7 28])
 (.seq (rg [oF 29 1 5,
 oL 30 29,
 oU 31 49 30,
 oM 32 6,
 oM 33 1,
 ⟨some 34,.bsl 1 1 [(.int .i64 0)] [(0,(.s 33))],none⟩,
 ⟨some 35,.call 126 [(.s 31),(.s 32),(.s 34)],none⟩,
 ⟨some 36,.build [(.slice none 0 0),(.slice none 0 0),(.slice none 0 0)] [(0,1,(.s 35))],none⟩,
 ⟨some 8,.alloc [(.slice none 0 0),(.slice none 0 0),(.slice none 0 0)],none⟩,
 oS 3 8 36])
 (.seq (rg [⟨some 9,.alloc [(.int .i64 0)],none⟩,
 ⟨none,.store 1 (.s 9) (.c (.int .i64 1)),none⟩])
 (.seq (.seq (rg [oF 37 0 8,
 oL 38 37,
 oE 39 38,
 oK 40 0])
 (.scope (.block 0 (.loop (.seq (rg [oB 41 .lss 40 39])
 (.seq (.cond (.s 41) (.skip)
 (.exit 0))
 (.seq (.block 1 (.seq (rg [oM 42 40,
 oI 43 1 38 40,
 oL 44 43,
 oM 10 42,
 oM 11 44])
 (.seq (.reg true false [oF 45 1 8,
 oL 46 45,
 oF 47 2 2,
 oL 48 47,
 oM 49 11,
 oI 50 1 48 49,
 oL 51 50,
 ⟨some 52,.bsl 1 1 [(.int .i64 0)] [(0,(.s 51))],none⟩,
 oT 53 1 8 46 52,
 oF 54 1 8,
 oS 1 54 53])
 (.seq (rg [oM 55 10,
 oM 56 6,
 oB 57 .gtr 55 56])
 (.scope (.cond (.s 57) (.reg true false [oL 58 9,
 oF 59 2 2,
 oL 60 59,
 oM 61 11,
 oI 62 1 60 61,
 oL 63 62,
 oB 64 .mul 58 63,
 oS 1 9 64])
 (.skip)))))))
 (rg [oD 65 .add 40 1,
 oM 40 65]))))))))
 (.seq (rg [oF 66 2 5,
 oL 67 66,
 oE 68 67,
 oF 69 0 5,
 oL 70 69,
 oB 71 .mul 68 70,
 ⟨some 72,.mk 1 8 [(.int .i64 0)] (.s 71) (.s 71),none⟩,
 oF 73 2 8,
 oS 1 73 72])
 (.seq (.seq (rg [oN 74 3 5,
 oU 75 127 74])
 (.block 2 (.zec (.s 75) [76,77] (.seq (rg [oM 12 76])
 (rg [oM 13 77]))
 (.block 3 (.seq (rg [oM 78 13,
 oE 79 78,
 oK 80 0])
 (.block 4 (.loop (.seq (rg [oB 81 .lss 80 79])
 (.seq (.cond (.s 81) (.skip)
 (.exit 4))
 (.seq (.block 5 (.seq (rg [oM 82 80,
 oI 83 1 78 80,
 oL 84 83,
 oM 14 82,
 oM 15 84])
 (.reg true false [oF 85 2 8,
 oL 86 85,
 oM 87 12,
 oL 88 9,
 oB 89 .quo 87 88,
 oF 90 0 5,
 oL 91 90,
 oB 92 .mul 89 91,
 oM 93 14,
 oB 94 .add 92 93,
 oL 95 9,
 oB 96 .mul 94 95,
 oM 97 12,
 oL 98 9,
 oB 99 .rem 97 98,
 oB 100 .add 96 99,
 oM 101 15,
 oI 102 1 86 100,
 oS 1 102 101])))
 (rg [oD 103 .add 80 1,
 oM 80 103])))))))))))
 (.seq (rg [oN 104 3 8,
 oS 3 4 104])
 (.ret)))))))))
theorem ze1:ziU mC 78=some (105,zdD,[.cell 4 (some 3)],false):=zbu (by kernel_rfl)
theorem zfj{p0:S_net_network}{p1:Int}{r:S_api_Factor}(h:zbr p0 p1=some r):Lx.Fn mC 78 [(.agg [(dI p0.net.grain),(fzE false zab p0.net.nodes),(fzE false (eI .i64) p0.zad),(fzE false (eI .u64) p0.sets),(fzE false (eI .i64) p0.order)]),(dI p1)] (.agg [(fzE true (eI .i64) r.vars),(fzE true (eI .i64) r.zad),(fzE true (eI .i64) r.w)]):=by
 refine Fn.of ze1 (zbo rfl) (qaf rfl) ?_;unfold zbr at h;simp only[zdD,zjR];refine zaa ?_;obtain⟨x1,g2,h⟩:=bind_some h;obtain⟨r3,g4,h⟩:=bind_some h;try simp only[rnA,Nat.reduceEqDiff,Nat.reduceLT,Nat.reduceAdd,Nat.reduceLeDiff,reduceCtorEq,zar,zao (n:=3) (e:=zab) rfl g2]
 refine EvL.fn (zdq g4) rfl rfl (.cons (zah _ _ (fun h=>nomatch h)) (.cons (.lit _) .nil)) ?_;obtain⟨y5,g6,h⟩:=bind_some h;try simp only[rnA,Nat.reduceEqDiff,Nat.reduceLT,reduceCtorEq]
 refine EvL.clone (t:=false) (zs:=x1.parents) g6 rfl rfl ?_;obtain⟨y7,g8,h⟩:=bind_some h;try simp only[rnA,Nat.reduceEqDiff,Nat.reduceLT,Nat.reduceAdd,reduceCtorEq]
 refine EvL.insert (zs:=y5) (t:=true) (us:=[p1]) (t2:=true) g8 rfl rfl rfl rfl rfl rfl rfl rfl rfl ?_;try simp only[rnA,Nat.reduceEqDiff,Nat.reduceLT,Nat.reduceAdd,Nat.reduceLeDiff,reduceCtorEq]
 obtain⟨o5,j5,h⟩:=bind_some h;obtain⟨T5,hT5⟩:=mkT fun a:(Int×(List Int))=>⟨105,[(4,(.ptr 1 0)),(5,(.ptr 2 0)),(8,(.ptr 5 0)),(9,(.ptr 6 0))],[.gone,.cells [zaU,zaU,zaU],.cells [(dI x1.zaE),(fzE false (eI .i64) x1.parents),(fzE false (eL (eI .i64)) x1.rows)],.els 1 (y7.map ((eI .i64).c true)),.gone,.cells [(.sl 3 0 1 y7.length none y7.length),(.sl 7 0 1 a.2.length none a.2.length),zaU],.cells [(dI a.1)],.grow 1 (a.2.map ((eI .i64).c true))]⟩
 refine EvL.jn T5 (fun a=>a=o5) ?_ ?_
 ·refine zaa ?_;simp only[rnA];obtain⟨T9,hT9⟩:=mkT fun a:(Int×Int×(List Int))=>⟨105,[(2,(.ptr 0 0)),(4,(.ptr 1 0)),(5,(.ptr 2 0)),(6,(dI r3.1)),(8,(.ptr 5 0)),(9,(.ptr 6 0)),(38,(.sl 3 0 1 y7.length none y7.length)),(39,(dI ((y7.length:Nat):Int))),(40,(dI a.1))],[.cells [(dI p0.net.grain),(fzE false zab p0.net.nodes),(fzE false (eI .i64) p0.zad),(fzE false (eI .u64) p0.sets),(fzE false (eI .i64) p0.order)],.cells [zaU,zaU,zaU],.cells [(dI x1.zaE),(fzE false (eI .i64) x1.parents),(fzE false (eL (eI .i64)) x1.rows)],.els 1 (y7.map ((eI .i64).c true)),.gone,.cells [(.sl 3 0 1 y7.length none y7.length),(.sl 7 0 1 a.2.2.length none a.2.2.length),zaU],.cells [(dI a.2.1)],.grow 1 (a.2.2.map ((eI .i64).c true))]⟩
  refine EvL.zl2 (zbC.zzd (n:=1) (β:=5) (o:=1) (by decide) rfl rfl) ?_;refine EvL.rounds (α:=(Int×Int×(List Int))) T9 (fun n a=>zaN y7 p0 r3 n a.1 a.2.1 a.2.2=some o5) (((y7.length:Nat):Int) - 0+2:Int).toNat (0,1,[]) (by rw[hT9]; exact wm0 [.k,.k,.k,.k,.d,.k,.k,.k] ⟨MB.cs ⟨qdb,qdb,qdb,qdb,qdb,qdb⟩,⟨MB.cs ⟨qdb,qdb,qdb,qdb⟩,⟨MB.cs ⟨qdb,qdb,qdb,qdb⟩,⟨MB.es (eI .i64) true y7,⟨rfl,⟨MB.cs ⟨rfl,rfl,qdb,qdb⟩,⟨MB.cs ⟨qdb,qdb⟩,⟨MB.gs (eI .i64) true [],qdb⟩⟩⟩⟩⟩⟩⟩⟩) j5 (fun _ h=>nomatch (show(none:Option (Int×(List Int)))=some o5 from h)) ?_;rintro n ⟨v40,b6_0,l7⟩ j5;simp only[zaN]at j5;rw[congrFun hT9 (v40,b6_0,l7)];refine zaa ?_;try simp only[rnA,Nat.reduceEqDiff,Nat.reduceLT]
  cases c9:(decide (v40<((y7.length:Nat):Int)))
  ·rw[c9,cond_false]at j5;try simp only[rnA]
   replace j5:=qac j5; subst j5;exact lfj hT5 rfl (wm0 [.d,.k,.k,.k,.d,.k,.k,.k] ⟨rfl,⟨MB.cs ⟨qdb,qdb,qdb,qdb⟩,⟨MB.cs ⟨qdb,qdb,qdb,qdb⟩,⟨MB.es (eI .i64) true y7,⟨rfl,⟨MB.cs ⟨rfl,rfl,qdb,qdb⟩,⟨MB.cs ⟨qdb,qdb⟩,⟨MB.gs (eI .i64) true l7,qdb⟩⟩⟩⟩⟩⟩⟩⟩)
  rw[c9,cond_true]at j5;obtain⟨x10,g11,j5⟩:=bind_some j5;obtain⟨x12,g13,j5⟩:=bind_some j5;obtain⟨y14,g15,j5⟩:=bind_some j5;try simp only[rnA,Nat.reduceEqDiff,Nat.reduceLT,Nat.reduceAdd,Nat.reduceLeDiff,zbl g11,(show v40<((y7.length:Nat):Int)from zbm g11),zaR g11 ((eI .i64).c true),zao (n:=1) (e:=(eI .i64)) rfl g13,zdE g15,(show l7.length+1=y14.length from zcx g15),(show l7.map ((eI .i64).c true)++ [[(dI x12)]]=y14.map ((eI .i64).c true)from zc9 g15 ((eI .i64).c true))]
  obtain⟨o10,j10,j5⟩:=bind_some j5;obtain⟨T10,hT10⟩:=mkT fun a:Int=>⟨105,[(2,(.ptr 0 0)),(4,(.ptr 1 0)),(5,(.ptr 2 0)),(6,(dI r3.1)),(8,(.ptr 5 0)),(9,(.ptr 6 0)),(38,(.sl 3 0 1 y7.length none y7.length)),(39,(dI ((y7.length:Nat):Int))),(40,(dI v40))],[.cells [(dI p0.net.grain),(fzE false zab p0.net.nodes),(fzE false (eI .i64) p0.zad),(fzE false (eI .u64) p0.sets),(fzE false (eI .i64) p0.order)],.cells [zaU,zaU,zaU],.cells [(dI x1.zaE),(fzE false (eI .i64) x1.parents),(fzE false (eL (eI .i64)) x1.rows)],.els 1 (y7.map ((eI .i64).c true)),.gone,.cells [(.sl 3 0 1 y7.length none y7.length),(.sl 7 0 1 y14.length none y14.length),zaU],.cells [(dI a)],.grow 1 (y14.map ((eI .i64).c true))]⟩
  refine EvL.jn T10 (fun a=>a=o10) ?_ ?_
  ·refine zaa ?_;try simp only[rnA,Nat.reduceEqDiff]
   cases c16:(decide (r3.1<v40))
   ·rw[c16,cond_false]at j10;try simp only[rnA]
    replace j10:=qac j10; subst j10;exact lfj hT10 rfl (wm0 [.k,.k,.k,.k,.d,.k,.k,.k] ⟨MB.cs ⟨qdb,qdb,qdb,qdb,qdb,qdb⟩,⟨MB.cs ⟨qdb,qdb,qdb,qdb⟩,⟨MB.cs ⟨qdb,qdb,qdb,qdb⟩,⟨MB.es (eI .i64) true y7,⟨rfl,⟨MB.cs ⟨rfl,rfl,qdb,qdb⟩,⟨MB.cs ⟨qdb,qdb⟩,⟨MB.gs (eI .i64) true y14,qdb⟩⟩⟩⟩⟩⟩⟩⟩)
   rw[c16,cond_true]at j10;try simp only[rnA,Nat.reduceEqDiff,Nat.reduceLT,Nat.reduceLeDiff,zao (n:=1) (e:=(eI .i64)) rfl g13]
   replace j10:=qac j10; subst j10;exact lfj hT10 rfl (wm0 [.k,.k,.k,.k,.d,.k,.k,.k] ⟨MB.cs ⟨qdb,qdb,qdb,qdb,qdb,qdb⟩,⟨MB.cs ⟨qdb,qdb,qdb,qdb⟩,⟨MB.cs ⟨qdb,qdb,qdb,qdb⟩,⟨MB.es (eI .i64) true y7,⟨rfl,⟨MB.cs ⟨rfl,rfl,qdb,qdb⟩,⟨MB.cs ⟨qdb,qdb⟩,⟨MB.gs (eI .i64) true y14,qdb⟩⟩⟩⟩⟩⟩⟩⟩)
  rintro b6_0' rfl;rw[congrFun hT10 b6_0'];refine zaa ?_;try simp only[rnA,Nat.reduceEqDiff,Nat.reduceLT]
  exact⟨((w64 (v40+1)),b6_0',y14),j5,by rw[hT9]; exact wm0 [.k,.k,.k,.k,.d,.k,.k,.k] ⟨MB.cs ⟨qdb,qdb,qdb,qdb,qdb,qdb⟩,⟨MB.cs ⟨qdb,qdb,qdb,qdb⟩,⟨MB.cs ⟨qdb,qdb,qdb,qdb⟩,⟨MB.es (eI .i64) true y7,⟨rfl,⟨MB.cs ⟨rfl,rfl,qdb,qdb⟩,⟨MB.cs ⟨qdb,qdb⟩,⟨MB.gs (eI .i64) true y14,qdb⟩⟩⟩⟩⟩⟩⟩⟩⟩
 rintro⟨b6_0,l7⟩ rfl;dsimp only at h;rw[congrFun hT5 (b6_0,l7)];refine zaa ?_;obtain⟨y17,g18,h⟩:=bind_some h;obtain⟨r19,g20,h⟩:=bind_some h;try simp only[rnA,Nat.reduceEqDiff,Nat.reduceLT,Nat.reduceAdd,Nat.reduceLeDiff,zat,(zaC g18).1.1,(zaC g18).1.2,qbU,(show List.replicate (Int.toNat (w64 ((x1.rows.length:Int)* x1.zaE))) [(dI 0)]=y17.map ((eI .i64).c true)from zb2 g18 ((eI .i64).c true))]
 refine EvL.fnS (zin g20) rfl rfl (.cons (Mzs.agg (.cons (.lit _) (.cons (zcC _ _ (fun h=>by cases h<;>contradiction)) (.cons (zcC _ _ (fun h=>by cases h<;>contradiction)) .nil)))) .nil) ⟨⟨qdb,(zaJ _ _),(zaJ _ _),qdb⟩,qdb⟩ ⟨qdb,⟨⟨rfl,zab.fr _⟩,qdb⟩⟩ ?_;try simp only[rnA,Nat.reduceLT,zar]
 obtain⟨u21,g22,h⟩:=bind_some h;obtain⟨o15,j15,h⟩:=bind_some h;obtain⟨T15,hT15⟩:∃ T:(List Int)→List LB,T=(fun a=>[.gone,.cells [zaU,zaU,zaU],.cells [(dI x1.zaE),(fzE false (eI .i64) x1.parents),(fzE false (eL (eI .i64)) x1.rows)],.els 1 (y7.map ((eI .i64).c true)),.gone,.cells [(.sl 3 0 1 y7.length none y7.length),(.sl 7 0 1 l7.length none l7.length),(.sl 8 0 1 (Int.toNat (w64 ((x1.rows.length:Int)* x1.zaE))) (some (Int.toNat (w64 ((x1.rows.length:Int)* x1.zaE)))) (Int.toNat (w64 ((x1.rows.length:Int)* x1.zaE))))],.cells [(dI b6_0)],.grow 1 (l7.map ((eI .i64).c true)),.els 1 (a.map ((eI .i64).c true))]):=⟨_,rfl⟩;refine EvL.zl2 (S':=⟨105,[(4,(.ptr 1 0)),(5,(.ptr 2 0)),(8,(.ptr 5 0)),(9,(.ptr 6 0)),(75,(.clo 156 [] [(.fptr false (zab.c false r19))]))],T15 y17⟩) (by rw[hT15]; exact wm0 [.k,.k,.k,.k,.k,.k,.k,.k,.k] ⟨MB.same trivial,⟨MB.cs ⟨qdb,qdb,qdb,qdb⟩,⟨MB.cs ⟨qdb,qdb,qdb,qdb⟩,⟨MB.es (eI .i64) true y7,⟨MB.same trivial,⟨MB.cs ⟨rfl,rfl,rfl,qdb⟩,⟨MB.cs ⟨qdb,qdb⟩,⟨MB.gs (eI .i64) true l7,⟨MB.es (eI .i64) true y17,qdb⟩⟩⟩⟩⟩⟩⟩⟩⟩) ?_;refine EvL.ze4 (n0:=9) (zhm r19 g22) rfl (bm:=.block 3 (.seq (.reg false false [⟨some 78,.mov (.s 13),none⟩,⟨some 79,.len (.s 78),none⟩,⟨some 80,.mov (.c (.int .i64 0)),none⟩]) (.scope (.block 4 (.loop (.seq (.reg false false [⟨some 81,.bin .lss (.s 80) (.s 79),none⟩]) (.seq (.cond (.s 81) (.skip) (.exit 4)) (.seq (.block 5 (.seq (.reg false false [⟨some 82,.mov (.s 80),none⟩,⟨some 83,.idxS 1 (.s 78) (.s 80),none⟩,⟨some 84,.load none (.s 83),none⟩,⟨some 14,.mov (.s 82),none⟩,⟨some 15,.mov (.s 84),none⟩]) (.reg true false [⟨some 85,.fld 2 (.s 8),none⟩,⟨some 86,.load none (.s 85),none⟩,⟨some 87,.mov (.s 12),none⟩,⟨some 88,.load none (.s 9),none⟩,⟨some 89,.bin .quo (.s 87) (.s 88),none⟩,⟨some 90,.fld 0 (.s 5),none⟩,⟨some 91,.load none (.s 90),none⟩,⟨some 92,.bin .mul (.s 89) (.s 91),none⟩,⟨some 93,.mov (.s 14),none⟩,⟨some 94,.bin .add (.s 92) (.s 93),none⟩,⟨some 95,.load none (.s 9),none⟩,⟨some 96,.bin .mul (.s 94) (.s 95),none⟩,⟨some 97,.mov (.s 12),none⟩,⟨some 98,.load none (.s 9),none⟩,⟨some 99,.bin .rem (.s 97) (.s 98),none⟩,⟨some 100,.bin .add (.s 96) (.s 99),none⟩,⟨some 101,.mov (.s 15),none⟩,⟨some 102,.idxS 1 (.s 86) (.s 100),none⟩,⟨none,.store 1 (.s 102) (.s 101),none⟩]))) (.reg false false [⟨some 103,.bin .add (.s 80) (.c (.int .i64 1)),none⟩,⟨some 80,.mov (.s 103),none⟩]))))))))) rfl T15 (fun i a=>zaM b6_0 x1 ((zqV r19.rows).drop i) a=some o15∧a.length=(Int.toNat (w64 ((x1.rows.length:Int)* x1.zaE)))) (fun x L1=>match x with | .normal=>∃ a,o15=a∧a.length=(Int.toNat (w64 ((x1.rows.length:Int)* x1.zaE)))∧L1=T15 a | .ret=>L1.length=9∧ze0 (9+1) L1∧(zcr [.cell 4 (some 3)] ((.agg [(fzE true (eI .i64) r.vars),(fzE true (eI .i64) r.zad),(fzE true (eI .i64) r.w)]))) .ret ⟨105,[(4,(.ptr 1 0)),(5,(.ptr 2 0)),(8,(.ptr 5 0)),(9,(.ptr 6 0)),(75,(.clo 156 [] [(.fptr false (zab.c false r19))]))],L1 ++ [.lost]⟩| _=>False) y17 ?_ (qaz _) ?_ ?_ ?_ (fun d L1 hx=>hx.elim) ?_ ?_ ?_ ?_ ?_ ?_
 ·intro a; rw[hT15]; rfl
 ·exact⟨(qaf rfl),(qaf rfl),(qaf rfl),(qaf rfl),⟨qdb,⟨qdb,qdb⟩⟩,qdb⟩
 ·intro a; rw[hT15]; exact⟨qdb,⟨qdb,qdb,qdb,qdb⟩,⟨qdb,qdb,qdb,qdb⟩,(zeh (eI .i64) _ _ _),qdb,⟨(qaf rfl),(qaf rfl),(qaf rfl),qdb⟩,⟨qdb,qdb⟩,(zeh (eI .i64) _ _ _),(zeh (eI .i64) _ _ _),qdb⟩
 ·intro x L1 hx;cases x with
  | normal=>obtain⟨a,_,_,rfl⟩:=hx; exact⟨by rw[hT15]; rfl,by rw[hT15]; exact⟨qdb,⟨qdb,qdb,qdb,qdb⟩,⟨qdb,qdb,qdb,qdb⟩,(zeh (eI .i64) _ _ _),qdb,⟨(qaf rfl),(qaf rfl),(qaf rfl),qdb⟩,⟨qdb,qdb⟩,(zeh (eI .i64) _ _ _),(zeh (eI .i64) _ _ _),qdb⟩⟩
  | ret=>exact⟨hx.1,hx.2.1⟩
  | exit id=>exact hx.elim
  | panic d=>exact hx.elim
 ·exact⟨j15,zby g18⟩
 ·rintro i l8 y23 args G lpF hy ⟨hi15,el8⟩ ⟨rfl,rfl⟩ hkin;rw[zgS hy]at hi15;simp only[zaM]at hi15;refine⟨_,_,rfl,rfl,?_⟩;rw[congrFun hT15 l8];refine zaa ?_;try simp only[rnA,Nat.reduceEqDiff,Nat.reduceLT,Nat.reduceAdd,zar,zat]
  obtain⟨o16,j16,hi15⟩:=bind_some hi15;obtain⟨T16,hT16⟩:=mkT fun a:(List Int)=>⟨105,[],[.gone,.cells [zaU,zaU,zaU],.cells [(dI x1.zaE),(fzE false (eI .i64) x1.parents),(fzE false (eL (eI .i64)) x1.rows)],.els 1 (y7.map ((eI .i64).c true)),.gone,.cells [(.sl 3 0 1 y7.length none y7.length),(.sl 7 0 1 l7.length none l7.length),(.sl 8 0 1 (Int.toNat (w64 ((x1.rows.length:Int)* x1.zaE))) (some (Int.toNat (w64 ((x1.rows.length:Int)* x1.zaE)))) (Int.toNat (w64 ((x1.rows.length:Int)* x1.zaE))))],.cells [(dI b6_0)],.grow 1 (l7.map ((eI .i64).c true)),.els 1 (a.map ((eI .i64).c true)),lpF]⟩
  refine EvL.jn T16 (fun a=>a=o16∧a.length=(Int.toNat (w64 ((x1.rows.length:Int)* x1.zaE)))) ?_ ?_
  ·refine zaa ?_;simp only[rnA];obtain⟨T17,hT17⟩:=mkT fun a:(Int×(List Int))=>⟨105,[(5,(.ptr 2 0)),(8,(.ptr 5 0)),(9,(.ptr 6 0)),(12,(dI y23.1)),(78,(fzE false (eI .i64) y23.2)),(79,(dI (y23.2.length:Int))),(80,(dI a.1))],[.gone,.cells [zaU,zaU,zaU],.cells [(dI x1.zaE),(fzE false (eI .i64) x1.parents),(fzE false (eL (eI .i64)) x1.rows)],.els 1 (y7.map ((eI .i64).c true)),.gone,.cells [(.sl 3 0 1 y7.length none y7.length),(.sl 7 0 1 l7.length none l7.length),(.sl 8 0 1 (Int.toNat (w64 ((x1.rows.length:Int)* x1.zaE))) (some (Int.toNat (w64 ((x1.rows.length:Int)* x1.zaE)))) (Int.toNat (w64 ((x1.rows.length:Int)* x1.zaE))))],.cells [(dI b6_0)],.grow 1 (l7.map ((eI .i64).c true)),.els 1 (a.2.map ((eI .i64).c true)),lpF]⟩
   refine EvL.rounds (α:=(Int×(List Int))) T17 (fun n a=>zaP y23 b6_0 x1 n a.1 a.2=some o16∧a.2.length=(Int.toNat (w64 ((x1.rows.length:Int)* x1.zaE)))) ((y23.2.length:Int) - 0+2:Int).toNat (0,l8) (by rw[hT17]; exact zbC.mK (k0:=10) [.k,.k,.k,.k,.k,.k,.k,.k,.k,.k] rfl rfl (msq (msq (msq (msq (msq (msq (msq trivial))))))) ⟨MB.same trivial,⟨MB.cs ⟨qdb,qdb,qdb,qdb⟩,⟨MB.cs ⟨qdb,qdb,qdb,qdb⟩,⟨MB.es (eI .i64) true y7,⟨MB.same trivial,⟨MB.cs ⟨rfl,rfl,rfl,qdb⟩,⟨MB.cs ⟨qdb,qdb⟩,⟨MB.gs (eI .i64) true l7,⟨MB.es (eI .i64) true l8,⟨.same (hkin _ (by decide)),qdb⟩⟩⟩⟩⟩⟩⟩⟩⟩⟩) ⟨j16,el8⟩ (fun _ h=>nomatch (show(none:Option (List Int))=some o16 from h.1)) ?_;rintro n ⟨v80,l8'⟩ ⟨j16,el8'⟩;simp only[zaP]at j16;rw[congrFun hT17 (v80,l8')];refine zaa ?_;try simp only[rnA,Nat.reduceEqDiff,Nat.reduceLT]
   cases c24:(decide (v80<(y23.2.length:Int)))
   ·rw[c24,cond_false]at j16;try simp only[rnA,Nat.reduceEqDiff]
    replace j16:=qac j16; subst j16;exact⟨_,⟨rfl,el8'⟩,by rw[hT16]; exact zbC.mK (k0:=10) [.k,.k,.k,.k,.k,.k,.k,.k,.k,.k] rfl rfl qdb ⟨MB.same trivial,⟨MB.cs ⟨qdb,qdb,qdb,qdb⟩,⟨MB.cs ⟨qdb,qdb,qdb,qdb⟩,⟨MB.es (eI .i64) true y7,⟨MB.same trivial,⟨MB.cs ⟨rfl,rfl,rfl,qdb⟩,⟨MB.cs ⟨qdb,qdb⟩,⟨MB.gs (eI .i64) true l7,⟨MB.es (eI .i64) true l8',⟨.same (hkin _ (by decide)),qdb⟩⟩⟩⟩⟩⟩⟩⟩⟩⟩⟩
   rw[c24,cond_true]at j16;obtain⟨x25,g26,j16⟩:=bind_some j16;obtain⟨q27,g28,j16⟩:=bind_some j16;obtain⟨q29,g30,j16⟩:=bind_some j16;obtain⟨x31,g32,j16⟩:=bind_some j16;obtain⟨y33,g34,j16⟩:=bind_some j16;try simp only[rnA,Nat.reduceEqDiff,Nat.reduceLT,Nat.reduceLeDiff,zao (n:=1) (e:=(eI .i64)) rfl g26,ziK g28,zkr g28,zk0 g30,el8',zbl g32,(show(w64 ((w64 ((w64 ((w64 (q27 * x1.zaE))+v80))* b6_0))+q29))<(((Int.toNat (w64 ((x1.rows.length:Int)* x1.zaE))):Nat):Int)from el8' ▸ zbm g32),zaR g32 ((eI .i64).c true),(show(l8'.map ((eI .i64).c true)).set (w64 ((w64 ((w64 ((w64 (q27 * x1.zaE))+v80))* b6_0))+q29)).toNat [(dI x25)]=y33.map ((eI .i64).c true)from zbs g34 ((eI .i64).c true))]
   exact⟨((w64 (v80+1)),y33),⟨j16,(zbg g34).trans el8'⟩,by rw[hT17]; exact zbC.mK (k0:=10) [.k,.k,.k,.k,.k,.k,.k,.k,.k,.k] rfl rfl (msq (msq (msq (msq (msq (msq (msq trivial))))))) ⟨MB.same trivial,⟨MB.cs ⟨qdb,qdb,qdb,qdb⟩,⟨MB.cs ⟨qdb,qdb,qdb,qdb⟩,⟨MB.es (eI .i64) true y7,⟨MB.same trivial,⟨MB.cs ⟨rfl,rfl,rfl,qdb⟩,⟨MB.cs ⟨qdb,qdb⟩,⟨MB.gs (eI .i64) true l7,⟨MB.es (eI .i64) true y33,⟨.same (hkin _ (by decide)),qdb⟩⟩⟩⟩⟩⟩⟩⟩⟩⟩⟩
  rintro l8' ⟨rfl,el8'⟩;rw[congrFun hT16 l8'];refine zaa ?_;try simp only[rnA]
  exact⟨T15 l8',by rw[hT15]; rfl,by rw[hT15]; exact zbC.mK [.k,.k,.k,.k,.k,.k,.k,.k,.k,.k] rfl rfl qdb ⟨MB.same trivial,⟨MB.cs ⟨qdb,qdb,qdb,qdb⟩,⟨MB.cs ⟨qdb,qdb,qdb,qdb⟩,⟨MB.es (eI .i64) true y7,⟨MB.same trivial,⟨MB.cs ⟨rfl,rfl,rfl,qdb⟩,⟨MB.cs ⟨qdb,qdb⟩,⟨MB.gs (eI .i64) true l7,⟨MB.es (eI .i64) true l8',⟨.same (hkin _ (by decide)),qdb⟩⟩⟩⟩⟩⟩⟩⟩⟩⟩,l8',⟨hi15,el8'⟩,rfl⟩
 ·rintro l8 ⟨hi15,el8⟩;rw[qbh]at hi15;simp only[zaM]at hi15;exact⟨l8,(qac hi15).symm,el8,rfl⟩
 ·rintro _ ⟨l8,oeq,el8,rfl⟩;have oeq2:=oeq.symm;subst oeq2;rw[congrFun hT15 l8];refine zaa ?_;try simp only[rnA,Nat.reduceEqDiff,Nat.reduceLT,Nat.reduceAdd,Nat.reduceLeDiff,zar]
  replace h:=qac h; subst h;exact zcr.ret rfl (.zd9 (.cons (zbD (e:=(eI .i64)) (t:=true) rfl (.inl rfl) rfl rfl (fun k h=>nomatch h) (fun _=>rfl)) (.cons (zbD (e:=(eI .i64)) (t:=true) rfl (.inr rfl) rfl rfl (fun k h=>nomatch h) (fun _=>rfl)) (.cons (zbD (e:=(eI .i64)) (t:=true) rfl (.inl rfl) (el8).symm (el8).symm (fun k h=>by cases h; exact qal _) (fun _=>rfl)) .nil))))
 ·intro id L1 hx; exact hx.elim
 intro L1 hx; exact hx.2.2
def zb5(r1:(S_net_network×Int)):Nat→Int→(List S_api_Factor)→Option (List S_api_Factor)
 | 0,_,_=>none
 | n+1,v23,l2=>(
bif (decide (v23<(((Int.toNat (r1.1.net.nodes.length:Int)):Nat):Int)))then(
(zbr r1.1 v23).bind fun r7=>
(zaZ l2 v23).bind fun x9=>
(zfu l2 v23 r7).bind fun y11=>
zb5 r1 n (w64 (v23+1)) y11)
else(
some l2))
def zc3(p0:S_api_Net):Option ((List S_api_Factor)×Int):=
(zcP p0).bind fun r1=>
bif (r1.2 == 0)then(
(zet 72 (r1.1.net.nodes.length:Int) (S_api_Factor.mk [] [] [])).bind fun y4=>
((zb5 r1 ((((Int.toNat (r1.1.net.nodes.length:Int)):Nat):Int) - 0+2:Int).toNat 0 y4:Option (List S_api_Factor))).bind fun l2=>
some (l2,0))
else(
some ([],r1.2))
theorem zi0{p0:S_api_Net}{r:((List S_api_Factor)×Int)}(h:zc3 p0=some r):Lx.Fn mC 16 [(.agg [(dI p0.grain),(fzE false zab p0.nodes)])] (.tup [(fzE true zav r.1),(dI r.2)]):=by
 refine fnO (by conv=>lhs; cbv) ?_;unfold zc3 at h;refine zaa ?_;obtain⟨r1,g2,h⟩:=bind_some h;try simp only[rnA,Nat.reduceEqDiff,Nat.reduceLT,Nat.reduceAdd,Nat.reduceLeDiff,reduceCtorEq]
 refine EvL.fnS (zeN g2) rfl rfl (.cons (Mzs.agg (.cons (.lit _) (.cons (zcC _ _ (fun h=>by cases h<;>contradiction)) .nil))) .nil) ⟨⟨qdb,(zaJ _ _),qdb⟩,qdb⟩ ⟨⟨qdb,(zaJ _ _),(zaJ _ _),(zaJ _ _),(zaJ _ _),qdb⟩,qdb,qdb⟩ ?_;try simp only[rnA,Nat.reduceEqDiff,Nat.reduceLT,Nat.reduceAdd,Nat.reduceLeDiff,reduceCtorEq]
 cases c3:(r1.2 == 0)
 ·rw[c3,cond_false]at h;try simp only[rnA,Nat.reduceEqDiff,Nat.reduceLT,reduceCtorEq]
  replace h:=qac h; subst h;exact zcr.ret rfl (Snp.zeU (.cons (zap zav) (.cons (.lit _) .nil)))
 rw[c3,cond_true]at h;obtain⟨y4,g5,h⟩:=bind_some h;try simp only[rnA,Nat.reduceEqDiff,Nat.reduceLT,Nat.reduceAdd,reduceCtorEq,zat,(zaC g5).1.1,(zaC g5).1.2,qbU,qcA]
 obtain⟨o1,j1,h⟩:=bind_some h;obtain⟨T1,hT1⟩:=mkT fun a:(List S_api_Factor)=>⟨34,[(6,(.sl 2 0 3 (Int.toNat (r1.1.net.nodes.length:Int)) (some (Int.toNat (r1.1.net.nodes.length:Int))) (Int.toNat (r1.1.net.nodes.length:Int))))],[.gone,.gone,.els 3 (a.map (zav.c true))]⟩
 refine EvL.jn T1 (fun a=>a=o1∧a.length=(Int.toNat (r1.1.net.nodes.length:Int))) ?_ ?_
 ·refine zaa ?_;simp only[rnA];obtain⟨T2,hT2⟩:=mkT fun a:(Int×(List S_api_Factor))=>⟨34,[(4,(.ptr 1 0)),(6,(.sl 2 0 3 (Int.toNat (r1.1.net.nodes.length:Int)) (some (Int.toNat (r1.1.net.nodes.length:Int))) (Int.toNat (r1.1.net.nodes.length:Int)))),(22,(dI (((Int.toNat (r1.1.net.nodes.length:Int)):Nat):Int))),(23,(dI a.1))],[.gone,.cells [(dI r1.1.net.grain),(fzE false zab r1.1.net.nodes),(fzE false (eI .i64) r1.1.zad),(fzE false (eI .u64) r1.1.sets),(fzE false (eI .i64) r1.1.order)],.els 3 (a.2.map (zav.c true))]⟩
  refine EvL.rounds (α:=(Int×(List S_api_Factor))) T2 (fun n a=>zb5 r1 n a.1 a.2=some o1∧a.2.length=(Int.toNat (r1.1.net.nodes.length:Int))) ((((Int.toNat (r1.1.net.nodes.length:Int)):Nat):Int) - 0+2:Int).toNat (0,y4) (by rw[hT2]; exact wm0 [.d,.k,.k] ⟨rfl,⟨MB.cs ⟨qdb,qdb,qdb,qdb,qdb,qdb⟩,⟨MB.zAm (zwg (e:=zav) (t:=true) g5 (.cons (.fr (zmr (eI .i64))) (.cons (.fr (zmr (eI .i64))) (.cons (.fr (zmr (eI .i64))) .nil)))),qdb⟩⟩⟩) ⟨j1,zby g5⟩ (fun _ h=>nomatch (show(none:Option (List S_api_Factor))=some o1 from h.1)) ?_;rintro n ⟨v23,l2⟩ ⟨j1,el2⟩;simp only[zb5]at j1;rw[congrFun hT2 (v23,l2)];refine zaa ?_;try simp only[rnA,Nat.reduceEqDiff,Nat.reduceLT]
  cases c6:(decide (v23<(((Int.toNat (r1.1.net.nodes.length:Int)):Nat):Int)))
  ·rw[c6,cond_false]at j1;try simp only[rnA]
   replace j1:=qac j1; subst j1;exact⟨_,⟨rfl,el2⟩,by rw[hT1]; exact wm0 [.d,.d,.k] ⟨rfl,⟨rfl,⟨MB.es zav true l2,qdb⟩⟩⟩⟩
  rw[c6,cond_true]at j1;obtain⟨r7,g8,j1⟩:=bind_some j1;try simp only[rnA,Nat.reduceEqDiff,Nat.reduceLT,Nat.reduceAdd,Nat.reduceLeDiff]
  refine EvL.fn (zfj g8) rfl rfl (.cons (.zd9 (.cons (.lit _) (.cons (zah _ _ (fun h=>nomatch h)) (.cons (zah _ _ (fun h=>nomatch h)) (.cons (zah _ _ (fun h=>nomatch h)) (.cons (zah _ _ (fun h=>nomatch h)) .nil)))))) (.cons (.lit _) .nil)) ?_;obtain⟨x9,g10,j1⟩:=bind_some j1;obtain⟨y11,g12,j1⟩:=bind_some j1;try simp only[rnA,Nat.reduceEqDiff,Nat.reduceLT,Nat.reduceAdd,Nat.reduceLeDiff,zdS,el2,zbl g10,(show v23<(((Int.toNat (r1.1.net.nodes.length:Int)):Nat):Int)from el2 ▸ zbm g10),zaR g10 (zav.c true),(show(l2.map (zav.c true)).set v23.toNat [(fzE true (eI .i64) r7.vars),(fzE true (eI .i64) r7.zad),(fzE true (eI .i64) r7.w)]=y11.map (zav.c true)from zbs g12 (zav.c true))]
  exact⟨((w64 (v23+1)),y11),⟨j1,(zbg g12).trans el2⟩,by rw[hT2]; exact wm0 [.d,.k,.k] ⟨rfl,⟨MB.cs ⟨qdb,qdb,qdb,qdb,qdb,qdb⟩,⟨MB.es zav true y11,qdb⟩⟩⟩⟩
 rintro l2 ⟨rfl,el2⟩;rw[congrFun hT1 l2];refine zaa ?_;try simp only[rnA,Nat.reduceEqDiff,Nat.reduceLT]
 replace h:=qac h; subst h;exact zcr.ret rfl (Snp.zeU (.cons (zbD (e:=zav) (t:=true) rfl (.inl rfl) (el2).symm (el2).symm (fun k h=>by cases h; exact qal _) (fun _=>rfl)) (.cons (.lit _) .nil)))
end Go.Dc
