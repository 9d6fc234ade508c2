/-
 What net_network_filled computes. Conditions: none.
-/
import Derived.Test.YtcfdkhbflhdjeaaNcJ1
set_option linter.unusedSimpArgs false
set_option linter.unusedVariables false
set_option maxRecDepth 100000
set_option maxHeartbeats 4000000
namespace Go.Dc
open Go Go.Mx Go.Lx Go.Proofs
def zaR(p1:S_api_Node)(p0:S_net_network):Nat→Int→Int→Option Int
 | 0,_,_=>none
 | n+1,v5,v16=>(
bif (decide (v16<(p1.parents.length:Int)))then(
(zaO p1.parents v16).bind fun x2=>
(zaO p0.cards x2).bind fun x4=>
zaR p1 p0 n (w64 (v5 * x4)) (w64 (v16+1)))
else(
some v5))
def zav(y11:(Int×(List Int))):Nat→Int→Int→Option (Out Int Bool)
 | 0,_,_=>none
 | n+1,v10,v42=>(
bif (decide (v42<(y11.2.length:Int)))then(
(zaO y11.2 v42).bind fun x13=>
((bif (decide (x13<0))then(
some true)
else(
some (decide (v10<x13))):Option Bool)).bind fun v52=>
bif v52 then(
some (.ret false))
else(
zav y11 n (w64 (v10 - x13)) (w64 (v42+1))))
else(
some (.go v10)))
def zau(p0:S_net_network)(p1:S_api_Node):List (Int×(List Int))→Option (Out Unit Bool)
 | []=>some (.go ())
 | y11 :: ys=>(
((zav y11 ((y11.2.length:Int) - 0+2:Int).toNat p0.net.grain 0:Option (Out Int Bool))).bind fun o=>match o with
| .go v10=>(
((bif ((y11.2.length:Int)== p1.card)then(
some (!(v10 == 0)))
else(
some true):Option Bool)).bind fun v65=>
bif v65 then(
some (.ret false))
else(
zau p0 p1 ys))
| .ret r=>some (.ret r))
def zaI(p0:S_net_network)(p1:S_api_Node):Option Bool:=
((zaR p1 p0 ((p1.parents.length:Int) - 0+2:Int).toNat 1 0:Option Int)).bind fun v5=>
bif ((p1.rows.length:Int)== v5)then(
(zfb p1).bind fun r7=>
(zgC r7.rows).bind fun u9=>
((zau p0 p1 (zpY r7.rows):Option (Out Unit Bool))).bind fun o=>match o with
| .go _=>(
some true)
| .ret r=>some r)
else(
some false)
theorem ze3{p0:S_net_network}{p1:S_api_Node}{r:Bool}(h:zaI p0 p1=some r):Lx.Fn mC 74 [(.agg [(dI p0.net.grain),(fzE false zaa p0.net.nodes),(fzE false (eI .i64) p0.cards),(fzE false (eI .u64) p0.sets),(fzE false (eI .i64) p0.order)]),(.agg [(dI p1.card),(fzE false (eI .i64) p1.parents),(fzE false (eL (eI .i64)) p1.rows)])] (dB r):=by
 refine fnO (by conv=>lhs; cbv) ?_;unfold zaI at h;refine zab ?_;try simp only[rnA,Nat.reduceEqDiff,Nat.reduceLT,Nat.reduceAdd,reduceCtorEq,zaj]
 obtain⟨o1,j1,h⟩:=bind_some h;obtain⟨T1,hT1⟩:=mkT fun a:Int=>⟨66,[(2,(.ptr 0 0)),(3,(.ptr 1 0)),(4,(.ptr 2 0)),(5,(dI a))],[.cells [(dI p0.net.grain),(fzE false zaa p0.net.nodes),(fzE false (eI .i64) p0.cards),(fzE false (eI .u64) p0.sets),(fzE false (eI .i64) p0.order)],.cells [(dI p1.card),(fzE false (eI .i64) p1.parents),(fzE false (eL (eI .i64)) p1.rows)],.cells [(dB false)]]⟩
 refine EvL.jn T1 (fun a=>a=o1) ?_ ?_
 ·refine zab ?_;simp only[rnA];obtain⟨T2,hT2⟩:=mkT fun a:(Int×Int)=>⟨66,[(2,(.ptr 0 0)),(3,(.ptr 1 0)),(4,(.ptr 2 0)),(5,(dI a.1)),(14,(fzE false (eI .i64) p1.parents)),(15,(dI (p1.parents.length:Int))),(16,(dI a.2))],[.cells [(dI p0.net.grain),(fzE false zaa p0.net.nodes),(fzE false (eI .i64) p0.cards),(fzE false (eI .u64) p0.sets),(fzE false (eI .i64) p0.order)],.cells [(dI p1.card),(fzE false (eI .i64) p1.parents),(fzE false (eL (eI .i64)) p1.rows)],.cells [(dB false)]]⟩
  refine EvL.rounds (α:=(Int×Int)) T2 (fun n a=>zaR p1 p0 n a.1 a.2=some o1) ((p1.parents.length:Int) - 0+2:Int).toNat (1,0) (by rw[hT2]; exact wm0 [.k,.k,.k] ⟨MB.cs ⟨qcG,qcG,qcG,qcG,qcG,qcG⟩,⟨MB.cs ⟨qcG,qcG,qcG,qcG⟩,⟨MB.cs ⟨qcG,qcG⟩,qcG⟩⟩⟩) j1 (fun _ h=>nomatch (show(none:Option Int)=some o1 from h)) ?_;rintro n ⟨v5,v16⟩ j1;simp only[zaR]at j1;rw[congrFun hT2 (v5,v16)];refine zab ?_;try simp only[rnA,Nat.reduceEqDiff,Nat.reduceLT]
  cases c1:(decide (v16<(p1.parents.length:Int)))
  ·rw[c1,cond_false]at j1;try simp only[rnA]
   replace j1:=qab j1; subst j1;exact lfj hT1 rfl (wm0 [.k,.k,.k] ⟨MB.cs ⟨qcG,qcG,qcG,qcG,qcG,qcG⟩,⟨MB.cs ⟨qcG,qcG,qcG,qcG⟩,⟨MB.cs ⟨qcG,qcG⟩,qcG⟩⟩⟩)
  rw[c1,cond_true]at j1;obtain⟨x2,g3,j1⟩:=bind_some j1;obtain⟨x4,g5,j1⟩:=bind_some j1;try simp only[rnA,Nat.reduceEqDiff,Nat.reduceLT,zai (n:=1) (e:=(eI .i64)) rfl g3,zai (n:=1) (e:=(eI .i64)) rfl g5]
  exact⟨((w64 (v5 * x4)),(w64 (v16+1))),j1,by rw[hT2]; exact wm0 [.k,.k,.k] ⟨MB.cs ⟨qcG,qcG,qcG,qcG,qcG,qcG⟩,⟨MB.cs ⟨qcG,qcG,qcG,qcG⟩,⟨MB.cs ⟨qcG,qcG⟩,qcG⟩⟩⟩⟩
 rintro v5 rfl;rw[congrFun hT1 v5];refine zab ?_;try simp only[rnA,Nat.reduceEqDiff,Nat.reduceLT,zaj]
 cases c6:((p1.rows.length:Int)== v5)
 ·rw[c6,cond_false]at h;try simp only[rnA,Nat.reduceEqDiff,Nat.reduceLeDiff]
  replace h:=qab h; subst h;exact za6.ret rfl (.lit _)
 rw[c6,cond_true]at h;obtain⟨r7,g8,h⟩:=bind_some h;try simp only[rnA,Nat.reduceEqDiff,Nat.reduceLT,Nat.reduceAdd,Nat.reduceLeDiff]
 refine EvL.fnS (zlU g8) rfl rfl (.cons (Mzs.agg (.cons (.lit _) (.cons (zex _ _ (fun h=>by cases h<;>contradiction)) (.cons (zex _ _ (fun h=>by cases h<;>contradiction)) .nil)))) .nil) ⟨⟨qcG,(zby _ _),(zby _ _),qcG⟩,qcG⟩ ⟨qcG,⟨⟨rfl,zaa.fr _⟩,qcG⟩⟩ ?_;try simp only[rnA,Nat.reduceLT,zac]
 obtain⟨u9,g10,h⟩:=bind_some h;obtain⟨o12,j12,h⟩:=bind_some h;obtain⟨T12,hT12⟩:∃ T:Unit→List LB,T=(fun a=>[.cells [(dI p0.net.grain),(fzE false zaa p0.net.nodes),(fzE false (eI .i64) p0.cards),(fzE false (eI .u64) p0.sets),(fzE false (eI .i64) p0.order)],.cells [(dI p1.card),(fzE false (eI .i64) p1.parents),(fzE false (eL (eI .i64)) p1.rows)],.cells [(dB false)]]):=⟨_,rfl⟩;refine EvL.zd1 (S':=⟨66,[(2,(.ptr 0 0)),(3,(.ptr 1 0)),(4,(.ptr 2 0)),(34,(.clo 93 [] [(.fptr false (zaa.c false r7))]))],T12 ()⟩) (by rw[hT12]; exact wm0 [.k,.k,.k] ⟨MB.cs ⟨qcG,qcG,qcG,qcG,qcG,qcG⟩,⟨MB.cs ⟨qcG,qcG,qcG,qcG⟩,⟨MB.cs ⟨qcG,qcG⟩,qcG⟩⟩⟩) ?_;refine EvL.zok (n0:=3) (zjV r7 g10) rfl (bm:=.block 3 (.seq (.reg false false [⟨some 37,.fld 0 (.s 2),none⟩,⟨some 38,.fld 0 (.s 37),none⟩,⟨some 39,.load none (.s 38),none⟩,⟨some 10,.mov (.s 39),none⟩]) (.seq (.seq (.reg false false [⟨some 40,.mov (.s 9),none⟩,⟨some 41,.len (.s 40),none⟩,⟨some 42,.mov (.c (.int .i64 0)),none⟩]) (.scope (.block 4 (.loop (.seq (.reg false false [⟨some 43,.bin .lss (.s 42) (.s 41),none⟩]) (.seq (.cond (.s 43) (.skip) (.exit 4)) (.seq (.block 5 (.seq (.reg false false [⟨some 44,.idxS 1 (.s 40) (.s 42),none⟩,⟨some 45,.load none (.s 44),none⟩,⟨some 12,.mov (.s 45),none⟩]) (.seq (.seq (.scope (.reg false false [⟨some 46,.mov (.s 12),none⟩,⟨some 47,.bin .lss (.s 46) (.c (.int .i64 0)),none⟩,⟨some 48,.mov (.s 47),none⟩,⟨some 49,.mov (.s 12),some (48,false)⟩,⟨some 50,.mov (.s 10),some (48,false)⟩,⟨some 51,.bin .gtr (.s 49) (.s 50),some (48,false)⟩,⟨some 52,.pick (.s 48) (.c (.bool true)) (.s 51),none⟩])) (.cond (.s 52) (.seq (.reg false false [⟨none,.store 1 (.s 4) (.c (.bool false)),none⟩]) (.ret)) (.skip))) (.reg false false [⟨some 53,.mov (.s 10),none⟩,⟨some 54,.mov (.s 12),none⟩,⟨some 55,.bin .sub (.s 53) (.s 54),none⟩,⟨some 10,.mov (.s 55),none⟩])))) (.reg false false [⟨some 56,.bin .add (.s 42) (.c (.int .i64 1)),none⟩,⟨some 42,.mov (.s 56),none⟩])))))))) (.seq (.scope (.reg false false [⟨some 57,.mov (.s 9),none⟩,⟨some 58,.len (.s 57),none⟩,⟨some 59,.fld 0 (.s 3),none⟩,⟨some 60,.load none (.s 59),none⟩,⟨some 61,.bin .neq (.s 58) (.s 60),none⟩,⟨some 62,.mov (.s 61),none⟩,⟨some 63,.mov (.s 10),some (62,false)⟩,⟨some 64,.bin .neq (.s 63) (.c (.int .i64 0)),some (62,false)⟩,⟨some 65,.pick (.s 62) (.c (.bool true)) (.s 64),none⟩])) (.cond (.s 65) (.seq (.reg false false [⟨none,.store 1 (.s 4) (.c (.bool false)),none⟩]) (.ret)) (.skip)))))) rfl T12 (fun i a=>zau p0 p1 ((zpY r7.rows).drop i)=some o12) (fun x L1=>match x with | .normal=>∃ a,o12=.go a∧L1=T12 a | .ret=>L1.length=3∧zf2 (3+1) L1∧(za6 [.cell 4 none] ((dB r))) .ret ⟨66,[(2,(.ptr 0 0)),(3,(.ptr 1 0)),(4,(.ptr 2 0)),(34,(.clo 93 [] [(.fptr false (zaa.c false r7))]))],L1 ++ [.lost]⟩| _=>False) () ?_ (qav _) ?_ ?_ ?_ (fun d L1 hx=>hx.elim) ?_ ?_ ?_ ?_ ?_ ?_
 ·intro a; rw[hT12]; rfl
 ·exact⟨(qah rfl),(qah rfl),(qah rfl),⟨qcG,⟨qcG,qcG⟩⟩,qcG⟩
 ·intro a; rw[hT12]; exact⟨⟨qcG,qcG,qcG,qcG,qcG,qcG⟩,⟨qcG,qcG,qcG,qcG⟩,⟨qcG,qcG⟩,qcG⟩
 ·intro x L1 hx;cases x with
  | normal=>obtain⟨a,_,rfl⟩:=hx; exact⟨by rw[hT12]; rfl,by rw[hT12]; exact⟨⟨qcG,qcG,qcG,qcG,qcG,qcG⟩,⟨qcG,qcG,qcG,qcG⟩,⟨qcG,qcG⟩,qcG⟩⟩
  | ret=>exact⟨hx.1,hx.2.1⟩
  | exit id=>exact hx.elim
  | panic d=>exact hx.elim
 ·exact j12
 ·rintro i ⟨⟩ y11 args G lpF hy hi12 ⟨rfl,rfl⟩ hkin;rw[zrz hy]at hi12;simp only[zau]at hi12;refine⟨_,_,rfl,rfl,?_⟩;rw[congrFun hT12 ()];refine zab ?_;try simp only[rnA,Nat.reduceEqDiff,Nat.reduceLT,Nat.reduceAdd,zac,zaj]
  obtain⟨o16,j16,hi12⟩:=bind_some hi12;obtain⟨T16,hT16⟩:=mkT fun a:Int=>⟨66,[(3,(.ptr 1 0)),(4,(.ptr 2 0)),(9,(fzE false (eI .i64) y11.2)),(10,(dI a))],[.cells [(dI p0.net.grain),(fzE false zaa p0.net.nodes),(fzE false (eI .i64) p0.cards),(fzE false (eI .u64) p0.sets),(fzE false (eI .i64) p0.order)],.cells [(dI p1.card),(fzE false (eI .i64) p1.parents),(fzE false (eL (eI .i64)) p1.rows)],.cells [(dB false)],lpF]⟩
  refine EvL.jn T16 (fun a=>o16=.go a) ?_ ?_
  ·refine zab ?_;simp only[rnA];obtain⟨T19,hT19⟩:=mkT fun a:(Int×Int)=>⟨66,[(3,(.ptr 1 0)),(4,(.ptr 2 0)),(9,(fzE false (eI .i64) y11.2)),(10,(dI a.1)),(40,(fzE false (eI .i64) y11.2)),(41,(dI (y11.2.length:Int))),(42,(dI a.2))],[.cells [(dI p0.net.grain),(fzE false zaa p0.net.nodes),(fzE false (eI .i64) p0.cards),(fzE false (eI .u64) p0.sets),(fzE false (eI .i64) p0.order)],.cells [(dI p1.card),(fzE false (eI .i64) p1.parents),(fzE false (eL (eI .i64)) p1.rows)],.cells [(dB false)],lpF]⟩
   refine EvL.rounds (α:=(Int×Int)) T19 (fun n a=>zav y11 n a.1 a.2=some o16) ((y11.2.length:Int) - 0+2:Int).toNat (p0.net.grain,0) (by rw[hT19]; exact zbu.mK (k0:=4) [.k,.k,.k,.k] rfl rfl (msq (msq (msq (msq (msq (msq (msq trivial))))))) ⟨MB.cs ⟨qcG,qcG,qcG,qcG,qcG,qcG⟩,⟨MB.cs ⟨qcG,qcG,qcG,qcG⟩,⟨MB.cs ⟨qcG,qcG⟩,⟨.same (hkin _ (by decide)),qcG⟩⟩⟩⟩) j16 (fun _ h=>nomatch (show(none:Option (Out Int Bool))=some o16 from h)) ?_;rintro n ⟨v10,v42⟩ j16;simp only[zav]at j16;rw[congrFun hT19 (v10,v42)];refine zab ?_;try simp only[rnA,Nat.reduceEqDiff,Nat.reduceLT]
   cases c12:(decide (v42<(y11.2.length:Int)))
   ·rw[c12,cond_false]at j16;try simp only[rnA,Nat.reduceEqDiff]
    replace j16:=qab j16; subst j16;exact⟨_,rfl,by rw[hT16]; exact zbu.mK (k0:=4) [.k,.k,.k,.k] rfl rfl (msq (msq (msq (msq trivial)))) ⟨MB.cs ⟨qcG,qcG,qcG,qcG,qcG,qcG⟩,⟨MB.cs ⟨qcG,qcG,qcG,qcG⟩,⟨MB.cs ⟨qcG,qcG⟩,⟨.same (hkin _ (by decide)),qcG⟩⟩⟩⟩⟩
   rw[c12,cond_true]at j16;obtain⟨x13,g14,j16⟩:=bind_some j16;try simp only[rnA,Nat.reduceEqDiff,Nat.reduceLT,zai (n:=1) (e:=(eI .i64)) rfl g14]
   obtain⟨o20,j20,j16⟩:=bind_some j16;obtain⟨T20,hT20⟩:=mkT fun a:Bool=>⟨66,[(3,(.ptr 1 0)),(4,(.ptr 2 0)),(9,(fzE false (eI .i64) y11.2)),(10,(dI v10)),(12,(dI x13)),(40,(fzE false (eI .i64) y11.2)),(41,(dI (y11.2.length:Int))),(42,(dI v42)),(52,(dB a))],[.cells [(dI p0.net.grain),(fzE false zaa p0.net.nodes),(fzE false (eI .i64) p0.cards),(fzE false (eI .u64) p0.sets),(fzE false (eI .i64) p0.order)],.cells [(dI p1.card),(fzE false (eI .i64) p1.parents),(fzE false (eL (eI .i64)) p1.rows)],.cells [(dB false)],lpF]⟩
   refine EvL.jn T20 (fun a=>a=o20) ?_ ?_
   ·refine zab ?_;try simp only[rnA,Nat.reduceEqDiff,Nat.reduceLT]
    cases c15:(decide (x13<0))
    ·rw[c15,cond_false]at j20;try simp only[rnA,Nat.reduceEqDiff,Nat.reduceLT]
     replace j20:=qab j20; subst j20;exact⟨_,rfl,by rw[hT20]; exact zbu.mK (k0:=4) [.k,.k,.k,.k] rfl rfl (msq (msq (msq (msq (msq (msq (msq (msq (msq trivial))))))))) ⟨MB.cs ⟨qcG,qcG,qcG,qcG,qcG,qcG⟩,⟨MB.cs ⟨qcG,qcG,qcG,qcG⟩,⟨MB.cs ⟨qcG,qcG⟩,⟨.same (hkin _ (by decide)),qcG⟩⟩⟩⟩⟩
    rw[c15,cond_true]at j20;try simp only[rnA,Nat.reduceEqDiff,Nat.reduceLT]
    replace j20:=qab j20; subst j20;exact⟨_,rfl,by rw[hT20]; exact zbu.mK (k0:=4) [.k,.k,.k,.k] rfl rfl (msq (msq (msq (msq (msq (msq (msq (msq (msq trivial))))))))) ⟨MB.cs ⟨qcG,qcG,qcG,qcG,qcG,qcG⟩,⟨MB.cs ⟨qcG,qcG,qcG,qcG⟩,⟨MB.cs ⟨qcG,qcG⟩,⟨.same (hkin _ (by decide)),qcG⟩⟩⟩⟩⟩
   rintro v52 rfl;rw[congrFun hT20 v52];refine zab ?_;try simp only[rnA,Nat.reduceEqDiff]
   cases c16:v52
   ·rw[c16,cond_false]at j16;try simp only[rnA,Nat.reduceEqDiff,Nat.reduceLT]
    exact⟨((w64 (v10 - x13)),(w64 (v42+1))),j16,by rw[hT19]; exact zbu.mK (k0:=4) [.k,.k,.k,.k] rfl rfl (msq (msq (msq (msq (msq (msq (msq trivial))))))) ⟨MB.cs ⟨qcG,qcG,qcG,qcG,qcG,qcG⟩,⟨MB.cs ⟨qcG,qcG,qcG,qcG⟩,⟨MB.cs ⟨qcG,qcG⟩,⟨.same (hkin _ (by decide)),qcG⟩⟩⟩⟩⟩
   rw[c16,cond_true]at j16;try simp only[rnA,Nat.reduceEqDiff,Nat.reduceLeDiff]
   replace j16:=qab j16; subst j16;dsimp only at hi12;replace hi12:=qab hi12; subst hi12;dsimp only at h;replace h:=qab h; subst h;exact⟨[.cells [(dI p0.net.grain),(fzE false zaa p0.net.nodes),(fzE false (eI .i64) p0.cards),(fzE false (eI .u64) p0.sets),(fzE false (eI .i64) p0.order)],.cells [(dI p1.card),(fzE false (eI .i64) p1.parents),(fzE false (eL (eI .i64)) p1.rows)],.cells [(dB false)]],rfl,zbu.mK [.k,.k,.k,.k] rfl rfl qcG ⟨MB.cs ⟨qcG,qcG,qcG,qcG,qcG,qcG⟩,⟨MB.cs ⟨qcG,qcG,qcG,qcG⟩,⟨MB.cs ⟨qcG,qcG⟩,⟨.same (hkin _ (by decide)),qcG⟩⟩⟩⟩,rfl,⟨⟨qcG,qcG,qcG,qcG,qcG,qcG⟩,⟨qcG,qcG,qcG,qcG⟩,⟨qcG,qcG⟩,qcG⟩,za6.ret rfl (.lit _)⟩
  rintro v10 rfl;dsimp only at hi12;rw[congrFun hT16 v10];refine zab ?_;try simp only[rnA]
  obtain⟨o21,j21,hi12⟩:=bind_some hi12;obtain⟨T21,hT21⟩:=mkT fun a:Bool=>⟨66,[(4,(.ptr 2 0)),(65,(dB a))],[.cells [(dI p0.net.grain),(fzE false zaa p0.net.nodes),(fzE false (eI .i64) p0.cards),(fzE false (eI .u64) p0.sets),(fzE false (eI .i64) p0.order)],.cells [(dI p1.card),(fzE false (eI .i64) p1.parents),(fzE false (eL (eI .i64)) p1.rows)],.cells [(dB false)],lpF]⟩
  refine EvL.jn T21 (fun a=>a=o21) ?_ ?_
  ·refine zab ?_;try simp only[rnA,Nat.reduceEqDiff,Nat.reduceLT,zaj]
   cases c17:((y11.2.length:Int)== p1.card)
   ·rw[c17,cond_false]at j21;try simp only[rnA,Nat.reduceEqDiff,Nat.reduceLT]
    replace j21:=qab j21; subst j21;exact⟨_,rfl,by rw[hT21]; exact zbu.mK (k0:=4) [.k,.k,.k,.k] rfl rfl (msq (msq trivial)) ⟨MB.cs ⟨qcG,qcG,qcG,qcG,qcG,qcG⟩,⟨MB.cs ⟨qcG,qcG,qcG,qcG⟩,⟨MB.cs ⟨qcG,qcG⟩,⟨.same (hkin _ (by decide)),qcG⟩⟩⟩⟩⟩
   rw[c17,cond_true]at j21;try simp only[rnA,Nat.reduceEqDiff,Nat.reduceLT]
   replace j21:=qab j21; subst j21;exact⟨_,rfl,by rw[hT21]; exact zbu.mK (k0:=4) [.k,.k,.k,.k] rfl rfl (msq (msq trivial)) ⟨MB.cs ⟨qcG,qcG,qcG,qcG,qcG,qcG⟩,⟨MB.cs ⟨qcG,qcG,qcG,qcG⟩,⟨MB.cs ⟨qcG,qcG⟩,⟨.same (hkin _ (by decide)),qcG⟩⟩⟩⟩⟩
  rintro v65 rfl;rw[congrFun hT21 v65];refine zab ?_;try simp only[rnA,Nat.reduceEqDiff]
  cases c18:v65
  ·rw[c18,cond_false]at hi12;try simp only[rnA]
   exact⟨T12 (),by rw[hT12]; rfl,by rw[hT12]; exact zbu.mK [.k,.k,.k,.k] rfl rfl qcG ⟨MB.cs ⟨qcG,qcG,qcG,qcG,qcG,qcG⟩,⟨MB.cs ⟨qcG,qcG,qcG,qcG⟩,⟨MB.cs ⟨qcG,qcG⟩,⟨.same (hkin _ (by decide)),qcG⟩⟩⟩⟩,(),hi12,rfl⟩
  rw[c18,cond_true]at hi12;try simp only[rnA,Nat.reduceEqDiff,Nat.reduceLeDiff]
  replace hi12:=qab hi12; subst hi12;dsimp only at h;replace h:=qab h; subst h;exact⟨[.cells [(dI p0.net.grain),(fzE false zaa p0.net.nodes),(fzE false (eI .i64) p0.cards),(fzE false (eI .u64) p0.sets),(fzE false (eI .i64) p0.order)],.cells [(dI p1.card),(fzE false (eI .i64) p1.parents),(fzE false (eL (eI .i64)) p1.rows)],.cells [(dB false)]],rfl,zbu.mK [.k,.k,.k,.k] rfl rfl qcG ⟨MB.cs ⟨qcG,qcG,qcG,qcG,qcG,qcG⟩,⟨MB.cs ⟨qcG,qcG,qcG,qcG⟩,⟨MB.cs ⟨qcG,qcG⟩,⟨.same (hkin _ (by decide)),qcG⟩⟩⟩⟩,rfl,⟨⟨qcG,qcG,qcG,qcG,qcG,qcG⟩,⟨qcG,qcG,qcG,qcG⟩,⟨qcG,qcG⟩,qcG⟩,za6.ret rfl (.lit _)⟩
 ·rintro⟨⟩ hi12;rw[List.drop_length]at hi12;simp only[zau]at hi12;exact⟨(),(qab hi12).symm,rfl⟩
 ·rintro _ ⟨⟨⟩,rfl,rfl⟩;dsimp only at h;rw[congrFun hT12 ()];refine zab ?_;try simp only[rnA,Nat.reduceEqDiff,Nat.reduceLeDiff,zac]
  replace h:=qab h; subst h;exact za6.ret rfl (.lit _)
 ·intro id L1 hx; exact hx.elim
 intro L1 hx; exact hx.2.2
def za1(p0:(List Int))(v5:Int)(C1:Nat):Nat→Int→(List Int)→Option (Out3 Unit (Int×(List Int)) ((List Int)×Bool))
 | 0,_,_=>none
 | n+1,v18,l0'=>(
bif (decide (v18<(p0.length:Int)))then(
(zaO p0 v18).bind fun x5=>
(((zkr .u64 v5 v18).bind fun q7=>
bif ((znD .u64 q7 1)== 0)then(
some (((ztW .u64 x5 v5)== 0),l0'))
else(
some (false,l0')):Option ((Bool×(List Int))))).bind fun o=>match o with
|(v33,l0'')=>(
bif v33 then(
(zlY C1 l0'' [v18]).bind fun y11=>
(zmV .u64 1 v18).bind fun q13=>
some (.brk ((orI .u64 v5 q13),y11)))
else(
za1 p0 v5 C1 n (w64 (v18+1)) l0'')))
else(
some (.go ())))
def zbb(p0:(List Int))(C1:Nat):Nat→Int→(List Int)→Option (Out (List Int) ((List Int)×Bool))
 | 0,_,_=>none
 | n+1,v5,l0=>(
bif (decide (((l0.length:Nat):Int)<(p0.length:Int)))then(
((za1 p0 v5 C1 ((p0.length:Int) - 0+2:Int).toNat 0 l0:Option (Out3 Unit (Int×(List Int)) ((List Int)×Bool)))).bind fun o=>match o with
| .go _=>(
some (.ret ([],false)))
| .brk (v5',l0')=>(
zbb p0 C1 n v5' l0')
| .ret r=>some (.ret r))
else(
some (.go l0)))
def zbE(p0:(List Int)):Option ((List Int)×Bool):=
(zso 8 (p0.length:Int)).bind fun C1=>
((zbb p0 C1 ((p0.length:Int) - ((([]:List Int).length:Nat):Int)+2:Int).toNat 0 ([]:List Int):Option (Out (List Int) ((List Int)×Bool)))).bind fun o=>match o with
| .go l0=>(
some (l0,true))
| .ret r=>some r
theorem zjF{p0:(List Int)}{r:((List Int)×Bool)}(h:zbE p0=some r):Lx.Fn mC 75 [(fzE false (eI .u64) p0)] (.tup [(fzE true (eI .i64) r.1),(dB r.2)]):=by
 refine fnO (by conv=>lhs; cbv) ?_;unfold zbE at h;refine zab ?_;try simp only[rnA,Nat.reduceLT]
 refine EvL.scope (zab ?_);obtain⟨C1,g2,h⟩:=bind_some h;try simp only[rnA,Nat.reduceEqDiff,Nat.reduceLT,reduceCtorEq,zaj,(zjB g2).1.1,(zjB g2).1.2,(zjB g2).2,qcr,qct,(show List.replicate C1 [(dI 0)]=(room [] C1 0).map ((eI .i64).c true)from zr0 g2 0 ((eI .i64).c true))]
 obtain⟨o84,j84,h⟩:=bind_some h;obtain⟨T84,hT84⟩:=mkT fun a:(List Int)=>⟨44,[(4,(.sl 0 0 1 a.length (some C1) C1))],[.els 1 ((room a C1 0).map ((eI .i64).c true))]⟩
 refine EvL.jn T84 (fun a=>o84=.go a∧a.length≤C1) ?_ ?_
 ·refine zab ?_;simp only[rnA];obtain⟨T103,hT103⟩:=mkT fun a:(Int×(List Int))=>⟨44,[(0,(fzE false (eI .u64) p0)),(4,(.sl 0 0 1 a.2.length (some C1) C1)),(5,(dU a.1))],[.els 1 ((room a.2 C1 0).map ((eI .i64).c true))]⟩
  refine EvL.rounds (α:=(Int×(List Int))) T103 (fun n a=>zbb p0 C1 n a.1 a.2=some o84∧a.2.length≤C1) ((p0.length:Int) - ((([]:List Int).length:Nat):Int)+2:Int).toNat (0,([]:List Int)) (by rw[hT103]; exact wm0 [.k] ⟨MB.es (eI .i64) true (room ([]:List Int) C1 0),qcG⟩) ⟨j84,(qav _)⟩ (fun _ h=>nomatch (show(none:Option (Out (List Int) ((List Int)×Bool)))=some o84 from h.1)) ?_;rintro n ⟨v5,l0⟩ ⟨j84,el0⟩;simp only[zbb]at j84;rw[congrFun hT103 (v5,l0)];refine zab ?_;try simp only[rnA,Nat.reduceEqDiff,Nat.reduceLT,reduceCtorEq,zgO el0 0,zaj]
  cases c3:(decide (((l0.length:Nat):Int)<(p0.length:Int)))
  ·rw[c3,cond_false]at j84;try simp only[rnA]
   replace j84:=qab j84; subst j84;exact⟨_,⟨rfl,el0⟩,by rw[hT84]; exact wm0 [.k] ⟨MB.es (eI .i64) true (room l0 C1 0),qcG⟩⟩
  rw[c3,cond_true]at j84;try simp only[rnA,Nat.reduceEqDiff,Nat.reduceLT,reduceCtorEq,zaj]
  obtain⟨o108,j108,j84⟩:=bind_some j84;obtain⟨T108,hT108⟩:=mkT fun a:Unit=>⟨44,[],[]⟩
  obtain⟨TB108,hTB108⟩:∃ T:(Int×(List Int))→LSt,T=(fun a=>⟨44,[(0,(fzE false (eI .u64) p0)),(4,(.sl 0 0 1 a.2.length (some C1) C1)),(5,(dU a.1))],[.els 1 ((room a.2 C1 0).map ((eI .i64).c true))]⟩):=⟨_,rfl⟩;refine EvL.jn2 (id:=1) T108 (fun a=>o108=.go a) TB108 (fun a=>o108=.brk a∧a.2.length≤C1) (fun id S hx=>by first | (rcases hx with⟨hx | hx,_⟩<;> cases hx)| exact hx.elim) ?_ ?_ ?_
  ·refine zab ?_;simp only[rnA];obtain⟨T111,hT111⟩:=mkT fun a:(Int×(List Int))=>⟨44,[(0,(fzE false (eI .u64) p0)),(4,(.sl 0 0 1 a.2.length (some C1) C1)),(5,(dU v5)),(16,(fzE false (eI .u64) p0)),(17,(dI (p0.length:Int))),(18,(dI a.1))],[.els 1 ((room a.2 C1 0).map ((eI .i64).c true))]⟩
   refine EvL.rounds (α:=(Int×(List Int))) T111 (fun n a=>za1 p0 v5 C1 n a.1 a.2=some o108∧a.2.length≤C1) ((p0.length:Int) - 0+2:Int).toNat (0,l0) (by rw[hT111]; exact wm0 [.k] ⟨MB.es (eI .i64) true (room l0 C1 0),qcG⟩) ⟨j108,el0⟩ (fun _ h=>nomatch (show(none:Option (Out3 Unit (Int×(List Int)) ((List Int)×Bool)))=some o108 from h.1)) ?_;rintro n ⟨v18,l0'⟩ ⟨j108,el0'⟩;simp only[za1]at j108;rw[congrFun hT111 (v18,l0')];refine zab ?_;try simp only[rnA,Nat.reduceEqDiff,Nat.reduceLT,reduceCtorEq]
   cases c4:(decide (v18<(p0.length:Int)))
   ·rw[c4,cond_false]at j108;try simp only[rnA,Nat.reduceEqDiff]
    replace j108:=qab j108; subst j108;exact lfj hT108 rfl (wm0 [] (by exact trivial))
   rw[c4,cond_true]at j108;obtain⟨x5,g6,j108⟩:=bind_some j108;try simp only[rnA,Nat.reduceEqDiff,Nat.reduceLT,reduceCtorEq,zai (n:=1) (e:=(eI .u64)) rfl g6]
   obtain⟨o112,j112,j108⟩:=bind_some j108;obtain⟨T112,hT112⟩:=mkT fun a:(Bool×(List Int))=>⟨44,[(0,(fzE false (eI .u64) p0)),(4,(.sl 0 0 1 a.2.length (some C1) C1)),(5,(dU v5)),(6,(dI v18)),(16,(fzE false (eI .u64) p0)),(17,(dI (p0.length:Int))),(18,(dI v18)),(33,(dB a.1))],[.els 1 ((room a.2 C1 0).map ((eI .i64).c true))]⟩
   refine EvL.jn T112 (fun a=>a=o112∧a.2.length≤C1) ?_ ?_
   ·refine zab ?_;obtain⟨q7,g8,j112⟩:=bind_some j112;try simp only[rnA,Nat.reduceEqDiff,Nat.reduceLT,reduceCtorEq,(zdO g8).1,(zdO g8).2]
    cases c9:((znD .u64 q7 1)== 0)
    ·rw[c9,cond_false]at j112;try simp only[rnA,Nat.reduceEqDiff,Nat.reduceLT,reduceCtorEq]
     replace j112:=qab j112; subst j112;exact⟨_,⟨rfl,el0'⟩,by rw[hT112]; exact wm0 [.k] ⟨MB.es (eI .i64) true (room l0' C1 0),qcG⟩⟩
    rw[c9,cond_true]at j112;try simp only[rnA,Nat.reduceEqDiff,Nat.reduceLT,reduceCtorEq]
    replace j112:=qab j112; subst j112;exact⟨_,⟨rfl,el0'⟩,by rw[hT112]; exact wm0 [.k] ⟨MB.es (eI .i64) true (room l0' C1 0),qcG⟩⟩
   rintro⟨v33,l0''⟩ ⟨rfl,el0''⟩;dsimp only at j108;rw[congrFun hT112 (v33,l0'')];refine zab ?_;try simp only[rnA,Nat.reduceEqDiff,reduceCtorEq]
   cases c10:v33
   ·rw[c10,cond_false]at j108;try simp only[rnA,Nat.reduceEqDiff,Nat.reduceLT,reduceCtorEq]
    exact⟨((w64 (v18+1)),l0''),⟨j108,el0''⟩,by rw[hT111]; exact wm0 [.k] ⟨MB.es (eI .i64) true (room l0'' C1 0),qcG⟩⟩
   rw[c10,cond_true]at j108;obtain⟨y11,g12,j108⟩:=bind_some j108;obtain⟨q13,g14,j108⟩:=bind_some j108;try simp only[rnA,Nat.reduceEqDiff,Nat.reduceLT,Nat.reduceAdd,Nat.reduceLeDiff,reduceCtorEq,zgO el0'' 0,(show l0''.length+1=y11.length from zk6 g12),zmw g12,(show((room l0'' C1 0).map ((eI .i64).c true)).take l0''.length ++ [[(dI v18)]]++ ((room l0'' C1 0).map ((eI .i64).c true)).drop y11.length=(room y11 C1 0).map ((eI .i64).c true)from zqn g12 0 ((eI .i64).c true)),(zdS g14).1,(zdS g14).2]
   replace j108:=qab j108; subst j108;exact⟨_,⟨rfl,(zmw g12)⟩,by rw[hTB108]; exact wm0 [.k] ⟨MB.es (eI .i64) true (room y11 C1 0),qcG⟩⟩
  ·rintro⟨⟩ rfl;dsimp only at j84;rw[congrFun hT108 ()];refine zab ?_;try simp only[rnA,Nat.reduceLT]
   replace j84:=qab j84; subst j84;dsimp only at h;replace h:=qab h; subst h;exact za6.ret rfl (Snp.zj9 (.cons (zaS (eI .i64)) (.cons (.lit _) .nil)))
  rintro⟨v5',l0'⟩ ⟨rfl,el0'⟩;dsimp only at j84;rw[congrFun hTB108 (v5',l0')];refine zab ?_;try simp only[rnA,reduceCtorEq]
  exact⟨(v5',l0'),⟨j84,el0'⟩,by rw[hT103]; exact wm0 [.k] ⟨MB.es (eI .i64) true (room l0' C1 0),qcG⟩⟩
 rintro l0 ⟨rfl,el0⟩;dsimp only at h;rw[congrFun hT84 l0];refine zab ?_;try simp only[rnA,Nat.reduceEqDiff,Nat.reduceLT]
 replace h:=qab h; subst h;exact za6.ret rfl (Snp.zj9 (.cons (zrd (e:=(eI .i64)) (t:=true) (z:=0) rfl rfl el0 (fun _=>rfl)) (.cons (.lit _) .nil)))
def zbg(p0:S_api_Net):Nat→Int→Int→(List Int)→Option (Out (Int×(List Int)) (S_net_network×Int))
 | 0,_,_,_=>none
 | n+1,v5,v50,l2=>(
bif (decide (v50<(p0.nodes.length:Int)))then(
(zaO p0.nodes v50).bind fun x10=>
((bif (decide (x10.card<1))then(
some true)
else(
some (decide (4<x10.card))):Option Bool)).bind fun v62=>
bif v62 then(
some (.ret ((S_net_network.mk (S_api_Net.mk 0 []) [] [] []),50)))
else(
(zaO l2 v50).bind fun x14=>
(zgG l2 v50 x10.card).bind fun y16=>
zbg p0 n (w64 (v5 * x10.card)) (w64 (v50+1)) y16))
else(
some (.go (v5,l2))))
def zbF(x20:S_api_Node)(p0:S_api_Net)(v82:Int):Nat→Int→Int→(List Int)→Option (Out (List Int) (S_net_network×Int))
 | 0,_,_,_=>none
 | n+1,v10,v90,l3'=>(
bif (decide (v90<(x20.parents.length:Int)))then(
(zaO x20.parents v90).bind fun x23=>
((bif (decide (x23≤v10))then(
some true)
else(
bif (decide ((p0.nodes.length:Int)≤x23))then(
some true)
else(
some (x23 == v82))):Option Bool)).bind fun v109=>
bif v109 then(
some (.ret ((S_net_network.mk (S_api_Net.mk 0 []) [] [] []),50)))
else(
(zaO l3' v82).bind fun x28=>
(zmV .u64 1 x23).bind fun q30=>
(zgG l3' v82 (orI .u64 x28 q30)).bind fun y32=>
zbF x20 p0 v82 n x23 (w64 (v90+1)) y32))
else(
some (.go l3')))
def zbf(p0:S_api_Net)(l2:(List Int)):Nat→Int→(List Int)→Option (Out (List Int) (S_net_network×Int))
 | 0,_,_=>none
 | n+1,v82,l3=>(
bif (decide (v82<(p0.nodes.length:Int)))then(
(zaO p0.nodes v82).bind fun x20=>
((zbF x20 p0 v82 ((x20.parents.length:Int) - 0+2:Int).toNat (-1) 0 l3:Option (Out (List Int) (S_net_network×Int)))).bind fun o=>match o with
| .go l3'=>(
(zaI (S_net_network.mk p0 l2 l3' []) x20).bind fun r34=>
bif r34 then(
zbf p0 l2 n (w64 (v82+1)) l3')
else(
some (.ret ((S_net_network.mk (S_api_Net.mk 0 []) [] [] []),50))))
| .ret r=>some (.ret r))
else(
some (.go l3)))
def zaN(p0:S_api_Net):Option (S_net_network×Int):=
((bif (decide (p0.grain<1))then(
some true)
else(
bif (decide (60<p0.grain))then(
some true)
else(
bif (decide ((p0.nodes.length:Int)<1))then(
some true)
else(
some (decide (8<(p0.nodes.length:Int)))))):Option Bool)).bind fun v34=>
bif v34 then(
some ((S_net_network.mk (S_api_Net.mk 0 []) [] [] []),50))
else(
(zgl 8 (p0.nodes.length:Int) 0).bind fun y5=>
(zgl 8 (p0.nodes.length:Int) 0).bind fun y7=>
((zbg p0 ((p0.nodes.length:Int) - 0+2:Int).toNat 1 0 y5:Option (Out (Int×(List Int)) (S_net_network×Int)))).bind fun o=>match o with
| .go (v5,l2)=>(
bif (decide (1024<v5))then(
some ((S_net_network.mk (S_api_Net.mk 0 []) [] [] []),50))
else(
((zbf p0 l2 ((p0.nodes.length:Int) - 0+2:Int).toNat 0 y7:Option (Out (List Int) (S_net_network×Int)))).bind fun o=>match o with
| .go l3=>(
(zbE l3).bind fun r37=>
bif r37.2 then(
some ((S_net_network.mk p0 l2 l3 r37.1),0))
else(
some ((S_net_network.mk (S_api_Net.mk 0 []) [] [] []),50)))
| .ret r=>some r))
| .ret r=>some r)
theorem zfz{p0:S_api_Net}{r:(S_net_network×Int)}(h:zaN p0=some r):Lx.FnA mC 43 [(.agg [(dI p0.grain),(fzE false zaa p0.nodes)])] (.tup [(.agg [(dI r.1.net.grain),(fzE false zaa r.1.net.nodes),(fzE false (eI .i64) r.1.cards),(fzE false (eI .u64) r.1.sets),(fzE false (eI .i64) r.1.order)]),(dI r.2)]):=by
 refine zwK (by conv=>lhs; cbv) ?_;unfold zaN at h;refine zab ?_;try simp only[rnA,Nat.reduceLT]
 obtain⟨o1,j1,h⟩:=bind_some h;obtain⟨T1,hT1⟩:=mkT fun a:Bool=>⟨140,[(1,(.ptr 0 0)),(2,(.ptr 1 0)),(34,(dB a))],[.cells [(dI p0.grain),(fzE false zaa p0.nodes)],.cells [(dI 0),zbW,zbW,zbW,zbW]]⟩
 refine EvL.jn T1 (fun a=>a=o1) ?_ ?_
 ·refine zab ?_;try simp only[rnA,Nat.reduceEqDiff,Nat.reduceLT,reduceCtorEq]
  cases c1:(decide (p0.grain<1))
  ·rw[c1,cond_false]at j1;try simp only[rnA,Nat.reduceEqDiff,Nat.reduceLT,reduceCtorEq]
   cases c2:(decide (60<p0.grain))
   ·rw[c2,cond_false]at j1;try simp only[rnA,Nat.reduceEqDiff,Nat.reduceLT,reduceCtorEq,zaj]
    cases c3:(decide ((p0.nodes.length:Int)<1))
    ·rw[c3,cond_false]at j1;try simp only[rnA,Nat.reduceEqDiff,Nat.reduceLT,reduceCtorEq,zaj]
     replace j1:=qab j1; subst j1;exact lfj hT1 rfl (wm0 [.k,.k] ⟨MB.cs ⟨qcG,qcG,qcG⟩,⟨MB.cs ⟨qcG,qcG,qcG,qcG,qcG,qcG⟩,qcG⟩⟩)
    rw[c3,cond_true]at j1;try simp only[rnA,Nat.reduceEqDiff,Nat.reduceLT,reduceCtorEq]
    replace j1:=qab j1; subst j1;exact lfj hT1 rfl (wm0 [.k,.k] ⟨MB.cs ⟨qcG,qcG,qcG⟩,⟨MB.cs ⟨qcG,qcG,qcG,qcG,qcG,qcG⟩,qcG⟩⟩)
   rw[c2,cond_true]at j1;try simp only[rnA,Nat.reduceEqDiff,Nat.reduceLT,reduceCtorEq]
   replace j1:=qab j1; subst j1;exact lfj hT1 rfl (wm0 [.k,.k] ⟨MB.cs ⟨qcG,qcG,qcG⟩,⟨MB.cs ⟨qcG,qcG,qcG,qcG,qcG,qcG⟩,qcG⟩⟩)
  rw[c1,cond_true]at j1;try simp only[rnA,Nat.reduceEqDiff,Nat.reduceLT,reduceCtorEq]
  replace j1:=qab j1; subst j1;exact lfj hT1 rfl (wm0 [.k,.k] ⟨MB.cs ⟨qcG,qcG,qcG⟩,⟨MB.cs ⟨qcG,qcG,qcG,qcG,qcG,qcG⟩,qcG⟩⟩)
 rintro v34 rfl;rw[congrFun hT1 v34];refine zab ?_;try simp only[rnA,Nat.reduceEqDiff]
 cases c4:v34
 ·rw[c4,cond_false]at h;obtain⟨y5,g6,h⟩:=bind_some h;obtain⟨y7,g8,h⟩:=bind_some h;try simp only[rnA,Nat.reduceEqDiff,Nat.reduceLT,Nat.reduceAdd,Nat.reduceLeDiff,zaj,(zcJ g6).1.1,(zcJ g6).1.2,qcr,(show List.replicate (Int.toNat (p0.nodes.length:Int)) [(dI 0)]=y5.map ((eI .i64).c true)from zeO g6 ((eI .i64).c true)),(show List.replicate (Int.toNat (p0.nodes.length:Int)) [(dU 0)]=y7.map ((eI .u64).c true)from zeO g8 ((eI .u64).c true))]
  obtain⟨o5,j5,h⟩:=bind_some h;obtain⟨T5,hT5⟩:=mkT fun a:(Int×(List Int))=>⟨140,[(2,(.ptr 1 0)),(4,(.ptr 4 0)),(5,(dI a.1))],[.gone,.cells [(dI 0),zbW,zbW,zbW,zbW],.els 1 (a.2.map ((eI .i64).c true)),.els 1 (y7.map ((eI .u64).c true)),.cells [(dI p0.grain),(fzE false zaa p0.nodes),(.sl 2 0 1 (Int.toNat (p0.nodes.length:Int)) (some (Int.toNat (p0.nodes.length:Int))) (Int.toNat (p0.nodes.length:Int))),(.sl 3 0 1 (Int.toNat (p0.nodes.length:Int)) (some (Int.toNat (p0.nodes.length:Int))) (Int.toNat (p0.nodes.length:Int))),zbW]]⟩
  refine EvL.jn T5 (fun a=>o5=.go a∧a.2.length=(Int.toNat (p0.nodes.length:Int))) ?_ ?_
  ·refine zab ?_;simp only[rnA];obtain⟨T8,hT8⟩:=mkT fun a:(Int×Int×(List Int))=>⟨140,[(2,(.ptr 1 0)),(4,(.ptr 4 0)),(5,(dI a.1)),(48,(fzE false zaa p0.nodes)),(49,(dI (p0.nodes.length:Int))),(50,(dI a.2.1))],[.gone,.cells [(dI 0),zbW,zbW,zbW,zbW],.els 1 (a.2.2.map ((eI .i64).c true)),.els 1 (y7.map ((eI .u64).c true)),.cells [(dI p0.grain),(fzE false zaa p0.nodes),(.sl 2 0 1 (Int.toNat (p0.nodes.length:Int)) (some (Int.toNat (p0.nodes.length:Int))) (Int.toNat (p0.nodes.length:Int))),(.sl 3 0 1 (Int.toNat (p0.nodes.length:Int)) (some (Int.toNat (p0.nodes.length:Int))) (Int.toNat (p0.nodes.length:Int))),zbW]]⟩
   refine EvL.rounds (α:=(Int×Int×(List Int))) T8 (fun n a=>zbg p0 n a.1 a.2.1 a.2.2=some o5∧a.2.2.length=(Int.toNat (p0.nodes.length:Int))) ((p0.nodes.length:Int) - 0+2:Int).toNat (1,0,y5) (by rw[hT8]; exact wm0 [.d,.k,.k,.k,.k] ⟨rfl,⟨MB.cs ⟨qcG,qcG,qcG,qcG,qcG,qcG⟩,⟨MB.es (eI .i64) true y5,⟨MB.es (eI .u64) true y7,⟨MB.cs ⟨qcG,qcG,rfl,rfl,qcG,qcG⟩,qcG⟩⟩⟩⟩⟩) ⟨j5,zd4 g6⟩ (fun _ h=>nomatch (show(none:Option (Out (Int×(List Int)) (S_net_network×Int)))=some o5 from h.1)) ?_;rintro n ⟨v5,v50,l2⟩ ⟨j5,el2⟩;simp only[zbg]at j5;rw[congrFun hT8 (v5,v50,l2)];refine zab ?_;try simp only[rnA,Nat.reduceEqDiff,Nat.reduceLT]
   cases c9:(decide (v50<(p0.nodes.length:Int)))
   ·rw[c9,cond_false]at j5;try simp only[rnA]
    replace j5:=qab j5; subst j5;exact⟨_,⟨rfl,el2⟩,by rw[hT5]; exact wm0 [.d,.k,.k,.k,.k] ⟨rfl,⟨MB.cs ⟨qcG,qcG,qcG,qcG,qcG,qcG⟩,⟨MB.es (eI .i64) true l2,⟨MB.es (eI .u64) true y7,⟨MB.cs ⟨qcG,qcG,rfl,rfl,qcG,qcG⟩,qcG⟩⟩⟩⟩⟩⟩
   rw[c9,cond_true]at j5;obtain⟨x10,g11,j5⟩:=bind_some j5;try simp only[rnA,Nat.reduceEqDiff,Nat.reduceLT,Nat.reduceAdd,Nat.reduceLeDiff,zac,zai (n:=3) (e:=zaa) rfl g11]
   obtain⟨o9,j9,j5⟩:=bind_some j5;obtain⟨T9,hT9⟩:=mkT fun a:Bool=>⟨140,[(2,(.ptr 1 0)),(4,(.ptr 4 0)),(5,(dI v5)),(6,(dI v50)),(7,(.ptr 5 0)),(48,(fzE false zaa p0.nodes)),(49,(dI (p0.nodes.length:Int))),(50,(dI v50)),(62,(dB a))],[.gone,.cells [(dI 0),zbW,zbW,zbW,zbW],.els 1 (l2.map ((eI .i64).c true)),.els 1 (y7.map ((eI .u64).c true)),.cells [(dI p0.grain),(fzE false zaa p0.nodes),(.sl 2 0 1 (Int.toNat (p0.nodes.length:Int)) (some (Int.toNat (p0.nodes.length:Int))) (Int.toNat (p0.nodes.length:Int))),(.sl 3 0 1 (Int.toNat (p0.nodes.length:Int)) (some (Int.toNat (p0.nodes.length:Int))) (Int.toNat (p0.nodes.length:Int))),zbW],.cells [(dI x10.card),(fzE false (eI .i64) x10.parents),(fzE false (eL (eI .i64)) x10.rows)]]⟩
   refine EvL.jn T9 (fun a=>a=o9) ?_ ?_
   ·refine zab ?_;try simp only[rnA,Nat.reduceEqDiff,Nat.reduceLT]
    cases c12:(decide (x10.card<1))
    ·rw[c12,cond_false]at j9;try simp only[rnA,Nat.reduceEqDiff,Nat.reduceLT]
     replace j9:=qab j9; subst j9;exact lfj hT9 rfl (wm0 [.d,.k,.k,.k,.k,.k] ⟨rfl,⟨MB.cs ⟨qcG,qcG,qcG,qcG,qcG,qcG⟩,⟨MB.es (eI .i64) true l2,⟨MB.es (eI .u64) true y7,⟨MB.cs ⟨qcG,qcG,rfl,rfl,qcG,qcG⟩,⟨MB.cs ⟨qcG,qcG,qcG,qcG⟩,qcG⟩⟩⟩⟩⟩⟩)
    rw[c12,cond_true]at j9;try simp only[rnA,Nat.reduceEqDiff,Nat.reduceLT]
    replace j9:=qab j9; subst j9;exact lfj hT9 rfl (wm0 [.d,.k,.k,.k,.k,.k] ⟨rfl,⟨MB.cs ⟨qcG,qcG,qcG,qcG,qcG,qcG⟩,⟨MB.es (eI .i64) true l2,⟨MB.es (eI .u64) true y7,⟨MB.cs ⟨qcG,qcG,rfl,rfl,qcG,qcG⟩,⟨MB.cs ⟨qcG,qcG,qcG,qcG⟩,qcG⟩⟩⟩⟩⟩⟩)
   rintro v62 rfl;rw[congrFun hT9 v62];refine zab ?_;try simp only[rnA,Nat.reduceEqDiff]
   cases c13:v62
   ·rw[c13,cond_false]at j5;obtain⟨x14,g15,j5⟩:=bind_some j5;obtain⟨y16,g17,j5⟩:=bind_some j5;try simp only[rnA,Nat.reduceEqDiff,Nat.reduceLT,Nat.reduceLeDiff,el2,zbP g15,(show v50<(((Int.toNat (p0.nodes.length:Int)):Nat):Int)from el2 ▸ zcq g15),zbv g15 ((eI .i64).c true),(show(l2.map ((eI .i64).c true)).set v50.toNat [(dI x10.card)]=y16.map ((eI .i64).c true)from zcX g17 ((eI .i64).c true))]
    exact⟨((w64 (v5 * x10.card)),(w64 (v50+1)),y16),⟨j5,(zcE g17).trans el2⟩,by rw[hT8]; exact wm0 [.d,.k,.k,.k,.k] ⟨rfl,⟨MB.cs ⟨qcG,qcG,qcG,qcG,qcG,qcG⟩,⟨MB.es (eI .i64) true y16,⟨MB.es (eI .u64) true y7,⟨MB.cs ⟨qcG,qcG,rfl,rfl,qcG,qcG⟩,qcG⟩⟩⟩⟩⟩⟩
   rw[c13,cond_true]at j5;try simp only[rnA,Nat.reduceEqDiff,Nat.reduceLT,Nat.reduceAdd,Nat.reduceLeDiff]
   replace j5:=qab j5; subst j5;dsimp only at h;replace h:=qab h; subst h;exact zlJ.ret rfl (Snp.zj9 (.cons (.zcf (.cons (.lit _) (.cons (zaS zaa) (.cons (zaS (eI .i64)) (.cons (zaS (eI .u64)) (.cons (zaS (eI .i64)) .nil)))))) (.cons (.lit _) .nil)))
  rintro⟨v5,l2⟩ ⟨rfl,el2⟩;dsimp only at h;rw[congrFun hT5 (v5,l2)];refine zab ?_;try simp only[rnA,Nat.reduceEqDiff,Nat.reduceLT]
  cases c18:(decide (1024<v5))
  ·rw[c18,cond_false]at h;try simp only[rnA,Nat.reduceEqDiff,Nat.reduceLT,zaj]
   obtain⟨o34,j34,h⟩:=bind_some h;obtain⟨T34,hT34⟩:=mkT fun a:(List Int)=>⟨140,[(2,(.ptr 1 0)),(4,(.ptr 4 0))],[.gone,.cells [(dI 0),zbW,zbW,zbW,zbW],.els 1 (l2.map ((eI .i64).c true)),.els 1 (a.map ((eI .u64).c true)),.cells [(dI p0.grain),(fzE false zaa p0.nodes),(.sl 2 0 1 (Int.toNat (p0.nodes.length:Int)) (some (Int.toNat (p0.nodes.length:Int))) (Int.toNat (p0.nodes.length:Int))),(.sl 3 0 1 (Int.toNat (p0.nodes.length:Int)) (some (Int.toNat (p0.nodes.length:Int))) (Int.toNat (p0.nodes.length:Int))),zbW]]⟩
   refine EvL.jn T34 (fun a=>o34=.go a∧a.length=(Int.toNat (p0.nodes.length:Int))) ?_ ?_
   ·refine zab ?_;simp only[rnA];obtain⟨T51,hT51⟩:=mkT fun a:(Int×(List Int))=>⟨140,[(2,(.ptr 1 0)),(4,(.ptr 4 0)),(80,(fzE false zaa p0.nodes)),(81,(dI (p0.nodes.length:Int))),(82,(dI a.1))],[.gone,.cells [(dI 0),zbW,zbW,zbW,zbW],.els 1 (l2.map ((eI .i64).c true)),.els 1 (a.2.map ((eI .u64).c true)),.cells [(dI p0.grain),(fzE false zaa p0.nodes),(.sl 2 0 1 (Int.toNat (p0.nodes.length:Int)) (some (Int.toNat (p0.nodes.length:Int))) (Int.toNat (p0.nodes.length:Int))),(.sl 3 0 1 (Int.toNat (p0.nodes.length:Int)) (some (Int.toNat (p0.nodes.length:Int))) (Int.toNat (p0.nodes.length:Int))),zbW]]⟩
    refine EvL.rounds (α:=(Int×(List Int))) T51 (fun n a=>zbf p0 l2 n a.1 a.2=some o34∧a.2.length=(Int.toNat (p0.nodes.length:Int))) ((p0.nodes.length:Int) - 0+2:Int).toNat (0,y7) (by rw[hT51]; exact wm0 [.d,.k,.k,.k,.k] ⟨rfl,⟨MB.cs ⟨qcG,qcG,qcG,qcG,qcG,qcG⟩,⟨MB.es (eI .i64) true l2,⟨MB.es (eI .u64) true y7,⟨MB.cs ⟨qcG,qcG,rfl,rfl,qcG,qcG⟩,qcG⟩⟩⟩⟩⟩) ⟨j34,zd4 g8⟩ (fun _ h=>nomatch (show(none:Option (Out (List Int) (S_net_network×Int)))=some o34 from h.1)) ?_;rintro n ⟨v82,l3⟩ ⟨j34,el3⟩;simp only[zbf]at j34;rw[congrFun hT51 (v82,l3)];refine zab ?_;try simp only[rnA,Nat.reduceEqDiff,Nat.reduceLT]
    cases c19:(decide (v82<(p0.nodes.length:Int)))
    ·rw[c19,cond_false]at j34;try simp only[rnA]
     replace j34:=qab j34; subst j34;exact⟨_,⟨rfl,el3⟩,by rw[hT34]; exact wm0 [.d,.k,.k,.k,.k] ⟨rfl,⟨MB.cs ⟨qcG,qcG,qcG,qcG,qcG,qcG⟩,⟨MB.es (eI .i64) true l2,⟨MB.es (eI .u64) true l3,⟨MB.cs ⟨qcG,qcG,rfl,rfl,qcG,qcG⟩,qcG⟩⟩⟩⟩⟩⟩
    rw[c19,cond_true]at j34;obtain⟨x20,g21,j34⟩:=bind_some j34;try simp only[rnA,Nat.reduceEqDiff,Nat.reduceLT,Nat.reduceAdd,Nat.reduceLeDiff,zac,zai (n:=3) (e:=zaa) rfl g21,zaj]
    obtain⟨o55,j55,j34⟩:=bind_some j34;obtain⟨T55,hT55⟩:=mkT fun a:(List Int)=>⟨140,[(2,(.ptr 1 0)),(4,(.ptr 4 0)),(9,(.ptr 5 0)),(80,(fzE false zaa p0.nodes)),(81,(dI (p0.nodes.length:Int))),(82,(dI v82))],[.gone,.cells [(dI 0),zbW,zbW,zbW,zbW],.els 1 (l2.map ((eI .i64).c true)),.els 1 (a.map ((eI .u64).c true)),.cells [(dI p0.grain),(fzE false zaa p0.nodes),(.sl 2 0 1 (Int.toNat (p0.nodes.length:Int)) (some (Int.toNat (p0.nodes.length:Int))) (Int.toNat (p0.nodes.length:Int))),(.sl 3 0 1 (Int.toNat (p0.nodes.length:Int)) (some (Int.toNat (p0.nodes.length:Int))) (Int.toNat (p0.nodes.length:Int))),zbW],.cells [(dI x20.card),(fzE false (eI .i64) x20.parents),(fzE false (eL (eI .i64)) x20.rows)]]⟩
    refine EvL.jn T55 (fun a=>o55=.go a∧a.length=(Int.toNat (p0.nodes.length:Int))) ?_ ?_
    ·refine zab ?_;simp only[rnA];obtain⟨T58,hT58⟩:=mkT fun a:(Int×Int×(List Int))=>⟨140,[(2,(.ptr 1 0)),(4,(.ptr 4 0)),(8,(dI v82)),(9,(.ptr 5 0)),(10,(dI a.1)),(80,(fzE false zaa p0.nodes)),(81,(dI (p0.nodes.length:Int))),(82,(dI v82)),(88,(fzE false (eI .i64) x20.parents)),(89,(dI (x20.parents.length:Int))),(90,(dI a.2.1))],[.gone,.cells [(dI 0),zbW,zbW,zbW,zbW],.els 1 (l2.map ((eI .i64).c true)),.els 1 (a.2.2.map ((eI .u64).c true)),.cells [(dI p0.grain),(fzE false zaa p0.nodes),(.sl 2 0 1 (Int.toNat (p0.nodes.length:Int)) (some (Int.toNat (p0.nodes.length:Int))) (Int.toNat (p0.nodes.length:Int))),(.sl 3 0 1 (Int.toNat (p0.nodes.length:Int)) (some (Int.toNat (p0.nodes.length:Int))) (Int.toNat (p0.nodes.length:Int))),zbW],.cells [(dI x20.card),(fzE false (eI .i64) x20.parents),(fzE false (eL (eI .i64)) x20.rows)]]⟩
     refine EvL.rounds (α:=(Int×Int×(List Int))) T58 (fun n a=>zbF x20 p0 v82 n a.1 a.2.1 a.2.2=some o55∧a.2.2.length=(Int.toNat (p0.nodes.length:Int))) ((x20.parents.length:Int) - 0+2:Int).toNat ((-1),0,l3) (by rw[hT58]; exact wm0 [.d,.k,.k,.k,.k,.k] ⟨rfl,⟨MB.cs ⟨qcG,qcG,qcG,qcG,qcG,qcG⟩,⟨MB.es (eI .i64) true l2,⟨MB.es (eI .u64) true l3,⟨MB.cs ⟨qcG,qcG,rfl,rfl,qcG,qcG⟩,⟨MB.cs ⟨qcG,qcG,qcG,qcG⟩,qcG⟩⟩⟩⟩⟩⟩) ⟨j55,el3⟩ (fun _ h=>nomatch (show(none:Option (Out (List Int) (S_net_network×Int)))=some o55 from h.1)) ?_;rintro n ⟨v10,v90,l3'⟩ ⟨j55,el3'⟩;simp only[zbF]at j55;rw[congrFun hT58 (v10,v90,l3')];refine zab ?_;try simp only[rnA,Nat.reduceEqDiff,Nat.reduceLT]
     cases c22:(decide (v90<(x20.parents.length:Int)))
     ·rw[c22,cond_false]at j55;try simp only[rnA,Nat.reduceEqDiff,Nat.reduceLT]
      replace j55:=qab j55; subst j55;exact⟨_,⟨rfl,el3'⟩,by rw[hT55]; exact wm0 [.d,.k,.k,.k,.k,.k] ⟨rfl,⟨MB.cs ⟨qcG,qcG,qcG,qcG,qcG,qcG⟩,⟨MB.es (eI .i64) true l2,⟨MB.es (eI .u64) true l3',⟨MB.cs ⟨qcG,qcG,rfl,rfl,qcG,qcG⟩,⟨MB.cs ⟨qcG,qcG,qcG,qcG⟩,qcG⟩⟩⟩⟩⟩⟩⟩
     rw[c22,cond_true]at j55;obtain⟨x23,g24,j55⟩:=bind_some j55;try simp only[rnA,Nat.reduceEqDiff,Nat.reduceLT,zai (n:=1) (e:=(eI .i64)) rfl g24]
     obtain⟨o59,j59,j55⟩:=bind_some j55;obtain⟨T59,hT59⟩:=mkT fun a:Bool=>⟨140,[(2,(.ptr 1 0)),(4,(.ptr 4 0)),(8,(dI v82)),(9,(.ptr 5 0)),(12,(dI x23)),(80,(fzE false zaa p0.nodes)),(81,(dI (p0.nodes.length:Int))),(82,(dI v82)),(88,(fzE false (eI .i64) x20.parents)),(89,(dI (x20.parents.length:Int))),(90,(dI v90)),(109,(dB a))],[.gone,.cells [(dI 0),zbW,zbW,zbW,zbW],.els 1 (l2.map ((eI .i64).c true)),.els 1 (l3'.map ((eI .u64).c true)),.cells [(dI p0.grain),(fzE false zaa p0.nodes),(.sl 2 0 1 (Int.toNat (p0.nodes.length:Int)) (some (Int.toNat (p0.nodes.length:Int))) (Int.toNat (p0.nodes.length:Int))),(.sl 3 0 1 (Int.toNat (p0.nodes.length:Int)) (some (Int.toNat (p0.nodes.length:Int))) (Int.toNat (p0.nodes.length:Int))),zbW],.cells [(dI x20.card),(fzE false (eI .i64) x20.parents),(fzE false (eL (eI .i64)) x20.rows)]]⟩
     refine EvL.jn T59 (fun a=>a=o59) ?_ ?_
     ·refine zab ?_;try simp only[rnA,Nat.reduceEqDiff,Nat.reduceLT]
      cases c25:(decide (x23≤v10))
      ·rw[c25,cond_false]at j59;try simp only[rnA,Nat.reduceEqDiff,Nat.reduceLT,zaj]
       cases c26:(decide ((p0.nodes.length:Int)≤x23))
       ·rw[c26,cond_false]at j59;try simp only[rnA,Nat.reduceEqDiff,Nat.reduceLT]
        replace j59:=qab j59; subst j59;exact lfj hT59 rfl (wm0 [.d,.k,.k,.k,.k,.k] ⟨rfl,⟨MB.cs ⟨qcG,qcG,qcG,qcG,qcG,qcG⟩,⟨MB.es (eI .i64) true l2,⟨MB.es (eI .u64) true l3',⟨MB.cs ⟨qcG,qcG,rfl,rfl,qcG,qcG⟩,⟨MB.cs ⟨qcG,qcG,qcG,qcG⟩,qcG⟩⟩⟩⟩⟩⟩)
       rw[c26,cond_true]at j59;try simp only[rnA,Nat.reduceEqDiff,Nat.reduceLT]
       replace j59:=qab j59; subst j59;exact lfj hT59 rfl (wm0 [.d,.k,.k,.k,.k,.k] ⟨rfl,⟨MB.cs ⟨qcG,qcG,qcG,qcG,qcG,qcG⟩,⟨MB.es (eI .i64) true l2,⟨MB.es (eI .u64) true l3',⟨MB.cs ⟨qcG,qcG,rfl,rfl,qcG,qcG⟩,⟨MB.cs ⟨qcG,qcG,qcG,qcG⟩,qcG⟩⟩⟩⟩⟩⟩)
      rw[c25,cond_true]at j59;try simp only[rnA,Nat.reduceEqDiff,Nat.reduceLT]
      replace j59:=qab j59; subst j59;exact lfj hT59 rfl (wm0 [.d,.k,.k,.k,.k,.k] ⟨rfl,⟨MB.cs ⟨qcG,qcG,qcG,qcG,qcG,qcG⟩,⟨MB.es (eI .i64) true l2,⟨MB.es (eI .u64) true l3',⟨MB.cs ⟨qcG,qcG,rfl,rfl,qcG,qcG⟩,⟨MB.cs ⟨qcG,qcG,qcG,qcG⟩,qcG⟩⟩⟩⟩⟩⟩)
     rintro v109 rfl;rw[congrFun hT59 v109];refine zab ?_;try simp only[rnA,Nat.reduceEqDiff]
     cases c27:v109
     ·rw[c27,cond_false]at j55;obtain⟨x28,g29,j55⟩:=bind_some j55;obtain⟨q30,g31,j55⟩:=bind_some j55;obtain⟨y32,g33,j55⟩:=bind_some j55;try simp only[rnA,Nat.reduceEqDiff,Nat.reduceLT,Nat.reduceLeDiff,el3',zbP g29,(show v82<(((Int.toNat (p0.nodes.length:Int)):Nat):Int)from el3' ▸ zcq g29),zbv g29 ((eI .u64).c true),(zdS g31).1,(zdS g31).2,(show(l3'.map ((eI .u64).c true)).set v82.toNat [(dU (orI .u64 x28 q30))]=y32.map ((eI .u64).c true)from zcX g33 ((eI .u64).c true))]
      exact⟨(x23,(w64 (v90+1)),y32),⟨j55,(zcE g33).trans el3'⟩,by rw[hT58]; exact wm0 [.d,.k,.k,.k,.k,.k] ⟨rfl,⟨MB.cs ⟨qcG,qcG,qcG,qcG,qcG,qcG⟩,⟨MB.es (eI .i64) true l2,⟨MB.es (eI .u64) true y32,⟨MB.cs ⟨qcG,qcG,rfl,rfl,qcG,qcG⟩,⟨MB.cs ⟨qcG,qcG,qcG,qcG⟩,qcG⟩⟩⟩⟩⟩⟩⟩
     rw[c27,cond_true]at j55;try simp only[rnA,Nat.reduceEqDiff,Nat.reduceLT,Nat.reduceAdd,Nat.reduceLeDiff]
     replace j55:=qab j55; subst j55;dsimp only at j34;replace j34:=qab j34; subst j34;dsimp only at h;replace h:=qab h; subst h;exact zlJ.ret rfl (Snp.zj9 (.cons (.zcf (.cons (.lit _) (.cons (zaS zaa) (.cons (zaS (eI .i64)) (.cons (zaS (eI .u64)) (.cons (zaS (eI .i64)) .nil)))))) (.cons (.lit _) .nil)))
    rintro l3' ⟨rfl,el3'⟩;dsimp only at j34;rw[congrFun hT55 l3'];refine zab ?_;obtain⟨r34,g35,j34⟩:=bind_some j34;try simp only[rnA,Nat.reduceEqDiff,Nat.reduceLT,Nat.reduceAdd,Nat.reduceLeDiff]
    refine EvL.fn (ze3 g35) rfl rfl (.cons (.zcf (.cons (.lit _) (.cons (zan _ _ (fun h=>nomatch h)) (.cons (zal (e:=(eI .i64)) (t:=true) rfl (.inl rfl) (el2).symm (el2).symm (fun k h=>by cases h; exact qak _) (fun h=>nomatch h)) (.cons (zal (e:=(eI .u64)) (t:=true) rfl (.inl rfl) (el3').symm (el3').symm (fun k h=>by cases h; exact qak _) (fun h=>nomatch h)) (.cons (zaS (eI .i64)) .nil)))))) (.cons (.zcf (.cons (.lit _) (.cons (zan _ _ (fun h=>nomatch h)) (.cons (zan _ _ (fun h=>nomatch h)) .nil)))) .nil)) ?_;try simp only[rnA,Nat.reduceEqDiff,Nat.reduceLT]
    cases c36:r34
    ·rw[c36,cond_false]at j34;try simp only[rnA,Nat.reduceEqDiff,Nat.reduceLT,Nat.reduceAdd,Nat.reduceLeDiff]
     replace j34:=qab j34; subst j34;dsimp only at h;replace h:=qab h; subst h;exact zlJ.ret rfl (Snp.zj9 (.cons (.zcf (.cons (.lit _) (.cons (zaS zaa) (.cons (zaS (eI .i64)) (.cons (zaS (eI .u64)) (.cons (zaS (eI .i64)) .nil)))))) (.cons (.lit _) .nil)))
    rw[c36,cond_true]at j34;try simp only[rnA,Nat.reduceEqDiff,Nat.reduceLT]
    exact⟨((w64 (v82+1)),l3'),⟨j34,el3'⟩,by rw[hT51]; exact wm0 [.d,.k,.k,.k,.k] ⟨rfl,⟨MB.cs ⟨qcG,qcG,qcG,qcG,qcG,qcG⟩,⟨MB.es (eI .i64) true l2,⟨MB.es (eI .u64) true l3',⟨MB.cs ⟨qcG,qcG,rfl,rfl,qcG,qcG⟩,qcG⟩⟩⟩⟩⟩⟩
   rintro l3 ⟨rfl,el3⟩;dsimp only at h;rw[congrFun hT34 l3];refine zab ?_;obtain⟨r37,g38,h⟩:=bind_some h;try simp only[rnA,Nat.reduceEqDiff,Nat.reduceLT]
   refine EvL.fn (zjF g38) rfl rfl (.cons (zal (e:=(eI .u64)) (t:=true) rfl (.inl rfl) (el3).symm (el3).symm (fun k h=>by cases h; exact qak _) (fun h=>nomatch h)) .nil) ?_;try simp only[rnA,Nat.reduceEqDiff,Nat.reduceLT]
   cases c39:r37.2
   ·rw[c39,cond_false]at h;try simp only[rnA,Nat.reduceEqDiff,Nat.reduceLT,Nat.reduceAdd,Nat.reduceLeDiff]
    replace h:=qab h; subst h;exact zlJ.ret rfl (Snp.zj9 (.cons (.zcf (.cons (.lit _) (.cons (zaS zaa) (.cons (zaS (eI .i64)) (.cons (zaS (eI .u64)) (.cons (zaS (eI .i64)) .nil)))))) (.cons (.lit _) .nil)))
   rw[c39,cond_true]at h;try simp only[rnA,Nat.reduceEqDiff,Nat.reduceLT,Nat.reduceAdd,Nat.reduceLeDiff]
   replace h:=qab h; subst h;exact zlJ.ret rfl (Snp.zj9 (.cons (.zcf (.cons (.lit _) (.cons (zan _ _ (fun h=>nomatch h)) (.cons (zal (e:=(eI .i64)) (t:=true) rfl (.inl rfl) (el2).symm (el2).symm (fun k h=>by cases h; exact qak _) (fun h=>nomatch h)) (.cons (zal (e:=(eI .u64)) (t:=true) rfl (.inl rfl) (el3).symm (el3).symm (fun k h=>by cases h; exact qak _) (fun h=>nomatch h)) (.cons (zan _ _ (fun h=>nomatch h)) .nil)))))) (.cons (.lit _) .nil)))
  rw[c18,cond_true]at h;try simp only[rnA,Nat.reduceEqDiff,Nat.reduceLT,Nat.reduceAdd,Nat.reduceLeDiff]
  replace h:=qab h; subst h;exact zlJ.ret rfl (Snp.zj9 (.cons (.zcf (.cons (.lit _) (.cons (zaS zaa) (.cons (zaS (eI .i64)) (.cons (zaS (eI .u64)) (.cons (zaS (eI .i64)) .nil)))))) (.cons (.lit _) .nil)))
 rw[c4,cond_true]at h;try simp only[rnA,Nat.reduceEqDiff,Nat.reduceLT,Nat.reduceAdd,Nat.reduceLeDiff]
 replace h:=qab h; subst h;exact zlJ.ret rfl (Snp.zj9 (.cons (.zcf (.cons (.lit _) (.cons (zaS zaa) (.cons (zaS (eI .i64)) (.cons (zaS (eI .u64)) (.cons (zaS (eI .i64)) .nil)))))) (.cons (.lit _) .nil)))
def zdE(p0:(List Int))(p1:(List Int)):Nat→Int→Option (Out Unit Bool)
 | 0,_=>none
 | n+1,v5=>(
bif (decide (v5<(p0.length:Int)))then(
(zaO p0 v5).bind fun x3=>
(zaO p1 v5).bind fun x5=>
bif (x3 == x5)then(
zdE p0 p1 n (w64 (v5+1)))
else(
some (.ret false)))
else(
some (.go ())))
def zca(p0:(List Int))(p1:(List Int)):Option Bool:=
bif ((p0.length:Int)==(p1.length:Int))then(
((zdE p0 p1 ((p0.length:Int) - 0+2:Int).toNat 0:Option (Out Unit Bool))).bind fun o=>match o with
| .go _=>(
some true)
| .ret r=>some r)
else(
some false)
theorem zhH{p0:(List Int)}{p1:(List Int)}{r:Bool}(h:zca p0 p1=some r):Lx.Fn mC 53 [(fzE false (eI .i64) p0),(fzE false (eI .i64) p1)] (dB r):=by
 refine fnO (by conv=>lhs; cbv) ?_;unfold zca at h;refine zab ?_;try simp only[rnA,Nat.reduceEqDiff,Nat.reduceLT,Nat.reduceAdd,reduceCtorEq,zaj]
 cases c1:((p0.length:Int)==(p1.length:Int))
 ·rw[c1,cond_false]at h;try simp only[rnA,Nat.reduceLT]
  replace h:=qab h; subst h;exact za6.ret rfl (.lit _)
 rw[c1,cond_true]at h;try simp only[rnA,Nat.reduceLT]
 obtain⟨o1,j1,h⟩:=bind_some h;obtain⟨T1,hT1⟩:=mkT fun a:Unit=>⟨26,[],[]⟩
 refine EvL.jn T1 (fun a=>o1=.go a) ?_ ?_
 ·refine zab ?_;simp only[rnA];obtain⟨T2,hT2⟩:=mkT fun a:Int=>⟨26,[(0,(fzE false (eI .i64) p0)),(1,(fzE false (eI .i64) p1)),(5,(dI a))],[]⟩
  refine EvL.rounds (α:=Int) T2 (fun n a=>zdE p0 p1 n a=some o1) ((p0.length:Int) - 0+2:Int).toNat 0 (by rw[hT2]; exact wm0 [] (by exact trivial)) j1 (fun _ h=>nomatch (show(none:Option (Out Unit Bool))=some o1 from h)) ?_;rintro n v5 j1;simp only[zdE]at j1;rw[congrFun hT2 v5];refine zab ?_;try simp only[rnA,Nat.reduceEqDiff,Nat.reduceLT,reduceCtorEq,zaj]
  cases c2:(decide (v5<(p0.length:Int)))
  ·rw[c2,cond_false]at j1;try simp only[rnA]
   replace j1:=qab j1; subst j1;exact lfj hT1 rfl (wm0 [] (by exact trivial))
  rw[c2,cond_true]at j1;obtain⟨x3,g4,j1⟩:=bind_some j1;obtain⟨x5,g6,j1⟩:=bind_some j1;try simp only[rnA,Nat.reduceEqDiff,Nat.reduceLT,reduceCtorEq,zai (n:=1) (e:=(eI .i64)) rfl g4,zai (n:=1) (e:=(eI .i64)) rfl g6]
  cases c7:(x3 == x5)
  ·rw[c7,cond_false]at j1;try simp only[rnA,Nat.reduceLT]
   replace j1:=qab j1; subst j1;dsimp only at h;replace h:=qab h; subst h;exact za6.ret rfl (.lit _)
  rw[c7,cond_true]at j1;try simp only[rnA,Nat.reduceEqDiff,Nat.reduceLT,reduceCtorEq]
  exact⟨(w64 (v5+1)),j1,by rw[hT2]; exact wm0 [] (by exact trivial)⟩
 rintro⟨⟩ rfl;dsimp only at h;rw[congrFun hT1 ()];refine zab ?_;try simp only[rnA,Nat.reduceLT]
 replace h:=qab h; subst h;exact za6.ret rfl (.lit _)
def zbs(p0:(List Int)):Nat→Int→Int→Option (Int×Bool)
 | 0,_,_=>none
 | n+1,v2,v11=>(
bif (decide (v11<(p0.length:Int)))then(
(zaO p0 v11).bind fun x3=>
((bif (decide (x3<1))then(
some true)
else(
bif (decide (8<x3))then(
some true)
else(
some (decide (4096<(w64 (v2 * x3)))))):Option Bool)).bind fun v15=>
bif v15 then(
some (0,false))
else(
zbs p0 n (w64 (v2 * x3)) (w64 (v11+1))))
else(
some (v2,true)))
def zcD(p0:(List Int)):Option (Int×Bool):=
bif (decide (12<(p0.length:Int)))then(
some (0,false))
else(
((zbs p0 ((p0.length:Int) - 0+2:Int).toNat 1 0:Option ((Int×Bool)))).bind fun o=>match o with
|(v2,v3)=>(
some (v2,v3)))
theorem zhT{p0:(List Int)}{r:(Int×Bool)}(h:zcD p0=some r):Lx.Fn mC 84 [(fzE false (eI .i64) p0)] (.tup [(dI r.1),(dB r.2)]):=by
 refine fnO (by conv=>lhs; cbv) ?_;unfold zcD at h;refine zab ?_;try simp only[rnA,Nat.reduceLT]
 refine EvL.scope (zab ?_);try simp only[rnA,Nat.reduceEqDiff,Nat.reduceLT,reduceCtorEq,zaj]
 cases c1:(decide (12<(p0.length:Int)))
 ·rw[c1,cond_false]at h;try simp only[rnA,Nat.reduceEqDiff,Nat.reduceLT,reduceCtorEq,zaj]
  obtain⟨o12,j12,h⟩:=bind_some h;obtain⟨T12,hT12⟩:=mkT fun a:(Int×Bool)=>⟨30,[(2,(dI a.1)),(3,(dB a.2))],[]⟩
  refine EvL.jn T12 (fun a=>a=o12) ?_ ?_
  ·refine zab ?_;simp only[rnA];obtain⟨T15,hT15⟩:=mkT fun a:(Int×Int)=>⟨30,[(2,(dI a.1)),(3,(dB true)),(9,(fzE false (eI .i64) p0)),(10,(dI (p0.length:Int))),(11,(dI a.2))],[]⟩
   refine EvL.rounds (α:=(Int×Int)) T15 (fun n a=>zbs p0 n a.1 a.2=some o12) ((p0.length:Int) - 0+2:Int).toNat (1,0) (by rw[hT15]; exact wm0 [] (by exact trivial)) j12 (fun _ h=>nomatch (show(none:Option (Int×Bool))=some o12 from h)) ?_;rintro n ⟨v2,v11⟩ j12;simp only[zbs]at j12;rw[congrFun hT15 (v2,v11)];refine zab ?_;try simp only[rnA,Nat.reduceEqDiff,Nat.reduceLT]
   cases c2:(decide (v11<(p0.length:Int)))
   ·rw[c2,cond_false]at j12;try simp only[rnA]
    replace j12:=qab j12; subst j12;exact lfj hT12 rfl (wm0 [] (by exact trivial))
   rw[c2,cond_true]at j12;obtain⟨x3,g4,j12⟩:=bind_some j12;try simp only[rnA,Nat.reduceEqDiff,Nat.reduceLT,zai (n:=1) (e:=(eI .i64)) rfl g4]
   obtain⟨o16,j16,j12⟩:=bind_some j12;obtain⟨T16,hT16⟩:=mkT fun a:Bool=>⟨30,[(2,(dI v2)),(3,(dB true)),(5,(dI x3)),(9,(fzE false (eI .i64) p0)),(10,(dI (p0.length:Int))),(11,(dI v11)),(15,(dB a))],[]⟩
   refine EvL.jn T16 (fun a=>a=o16) ?_ ?_
   ·refine zab ?_;try simp only[rnA,Nat.reduceEqDiff]
    cases c5:(decide (x3<1))
    ·rw[c5,cond_false]at j16;try simp only[rnA,Nat.reduceEqDiff,Nat.reduceLT]
     cases c6:(decide (8<x3))
     ·rw[c6,cond_false]at j16;try simp only[rnA,Nat.reduceEqDiff,Nat.reduceLT]
      replace j16:=qab j16; subst j16;exact lfj hT16 rfl (wm0 [] (by exact trivial))
     rw[c6,cond_true]at j16;try simp only[rnA]
     replace j16:=qab j16; subst j16;exact lfj hT16 rfl (wm0 [] (by exact trivial))
    rw[c5,cond_true]at j16;try simp only[rnA]
    replace j16:=qab j16; subst j16;exact lfj hT16 rfl (wm0 [] (by exact trivial))
   rintro v15 rfl;rw[congrFun hT16 v15];refine zab ?_;try simp only[rnA,Nat.reduceEqDiff]
   cases c7:v15
   ·rw[c7,cond_false]at j12;try simp only[rnA,Nat.reduceEqDiff,Nat.reduceLT]
    exact⟨((w64 (v2 * x3)),(w64 (v11+1))),j12,by rw[hT15]; exact wm0 [] (by exact trivial)⟩
   rw[c7,cond_true]at j12;try simp only[rnA,Nat.reduceEqDiff,Nat.reduceLT,reduceCtorEq]
   replace j12:=qab j12; subst j12;exact lfj hT12 rfl (wm0 [] (by exact trivial))
  rintro⟨v2,v3⟩ rfl;dsimp only at h;rw[congrFun hT12 (v2,v3)];refine zab ?_;try simp only[rnA,Nat.reduceEqDiff,Nat.reduceLT]
  replace h:=qab h; subst h;exact za6.ret rfl (Snp.zj9 (.cons (.lit _) (.cons (.lit _) .nil)))
 rw[c1,cond_true]at h;try simp only[rnA,Nat.reduceLT]
 replace h:=qab h; subst h;exact za6.ret rfl (Snp.zj9 (.cons (.lit _) (.cons (.lit _) .nil)))
def zcB(p0:S_api_Net):Option Int:=
(zcm p0).bind fun r1=>
(zcS r1).bind fun r3=>
some r3
theorem zjt{p0:S_api_Net}{r:Int}(h:zcB p0=some r):Lx.Fn mC 14 [(.agg [(dI p0.grain),(fzE false zaa p0.nodes)])] (dI r):=by
 refine fnO (by conv=>lhs; cbv) ?_;unfold zcB at h;refine zab ?_;obtain⟨r1,g2,h⟩:=bind_some h;try simp only[rnA,Nat.reduceEqDiff,reduceIte,Nat.reduceLT,Nat.reduceAdd,Nat.reduceLeDiff,Nat.reduceMul,Nat.reduceSub,Int.reduceLE,Int.reduceLT,Int.reduceBEq,Nat.reduceBEq,reduceCtorEq,zac,zao,zc6]
 refine EvL.fn (zgz g2) rfl rfl (.cons (.zcf (.cons (.lit _) (.cons (zan _ _ (fun h=>nomatch h)) .nil))) .nil) ?_;obtain⟨r3,g4,h⟩:=bind_some h;try simp only[rnA,Nat.reduceEqDiff,reduceIte,Nat.reduceLT,Nat.reduceAdd,Nat.reduceLeDiff,Nat.reduceMul,Nat.reduceSub,Int.reduceLE,Int.reduceLT,Int.reduceBEq,Nat.reduceBEq,reduceCtorEq,zac,zao]
 refine EvL.fn (zfv g4) rfl rfl (.cons (zan _ _ (fun h=>nomatch h)) .nil) ?_;try simp only[rnA,Nat.reduceEqDiff,reduceIte,Nat.reduceLT,Nat.reduceAdd,Nat.reduceLeDiff,Nat.reduceMul,Nat.reduceSub,Int.reduceLE,Int.reduceLT,Int.reduceBEq,Nat.reduceBEq,reduceCtorEq,zac,zao]
 replace h:=qab h; subst h;exact za6.ret rfl (.lit _)
def za0(p0:S_api_Net):Option Int:=
(zaN p0).bind fun r1=>
some r1.2
theorem zeK{p0:S_api_Net}{r:Int}(h:za0 p0=some r):Lx.Fn mC 16 [(.agg [(dI p0.grain),(fzE false zaa p0.nodes)])] (dI r):=by
 refine fnO (by conv=>lhs; cbv) ?_;unfold za0 at h;refine zab ?_;obtain⟨r1,g2,h⟩:=bind_some h;try simp only[rnA,Nat.reduceEqDiff,reduceIte,Nat.reduceLT,Nat.reduceAdd,Nat.reduceLeDiff,Nat.reduceMul,Nat.reduceSub,Int.reduceLE,Int.reduceLT,Int.reduceBEq,Nat.reduceBEq,reduceCtorEq,zac,zao,zc6]
 refine EvL.fnS (zfz g2) rfl rfl (.cons (Mzs.agg (.cons (.lit _) (.cons (zex _ _ (fun h=>by cases h<;>contradiction)) .nil))) .nil) ⟨⟨qcG,(zby _ _),qcG⟩,qcG⟩ ⟨⟨qcG,(zby _ _),(zby _ _),(zby _ _),(zby _ _),qcG⟩,qcG,qcG⟩ ?_;try simp only[rnA,Nat.reduceEqDiff,reduceIte,Nat.reduceLT,Nat.reduceAdd,Nat.reduceLeDiff,Nat.reduceMul,Nat.reduceSub,Int.reduceLE,Int.reduceLT,Int.reduceBEq,Nat.reduceBEq,reduceCtorEq,zac,zao]
 replace h:=qab h; subst h;exact za6.ret rfl (.lit _)
def zda(p0:Int)(p1:Int):Option Bool:=
some (p0 == p1)
theorem ziT{p0:Int}{p1:Int}{r:Bool}(h:zda p0 p1=some r):Lx.Fn mC 56 [(dI p0),(dI p1)] (dB r):=by
 refine fnO (by conv=>lhs; cbv) ?_;unfold zda at h;refine zab ?_;try simp only[rnA,Nat.reduceEqDiff,reduceIte,Nat.reduceLT,Nat.reduceAdd,Nat.reduceLeDiff,Nat.reduceMul,Nat.reduceSub,Int.reduceLE,Int.reduceLT,Int.reduceBEq,Nat.reduceBEq,reduceCtorEq]
 replace h:=qab h; subst h;exact za6.ret rfl (.lit _)
def zbX(p0:(List Int))(p1:(List Int)):Nat→Int→Option (Out Unit Bool)
 | 0,_=>none
 | n+1,v15=>(
bif (decide (v15<(p0.length:Int)))then(
(zaO p0 v15).bind fun x3=>
(zaO p1 v15).bind fun x5=>
(zda x3 x5).bind fun r7=>
bif r7 then(
zbX p0 p1 n (w64 (v15+1)))
else(
some (.ret false)))
else(
some (.go ())))
def zbL(p0:(List Int))(p1:(List Int))(p2:Unit):Option Bool:=
bif ((p0.length:Int)==(p1.length:Int))then(
((zbX p0 p1 ((p0.length:Int) - 0+2:Int).toNat 0:Option (Out Unit Bool))).bind fun o=>match o with
| .go _=>(
some true)
| .ret r=>some r)
else(
some false)
theorem zeN{p0:(List Int)}{p1:(List Int)}{p2:Unit}{r:Bool}(h:zbL p0 p1 p2=some r):Lx.Fn mC 59 [(fzE false (eI .i64) p0),(fzE false (eI .i64) p1),(.clo 56 [] [])] (dB r):=by
 refine fnO (by conv=>lhs; cbv) ?_;unfold zbL at h;refine zab ?_;try simp only[rnA,Nat.reduceEqDiff,Nat.reduceLT,Nat.reduceAdd,reduceCtorEq,zaj]
 cases c1:((p0.length:Int)==(p1.length:Int))
 ·rw[c1,cond_false]at h;try simp only[rnA,Nat.reduceLT]
  replace h:=qab h; subst h;exact za6.ret rfl (.lit _)
 rw[c1,cond_true]at h;try simp only[rnA,Nat.reduceEqDiff,Nat.reduceLT,reduceCtorEq,zaj]
 obtain⟨o1,j1,h⟩:=bind_some h;obtain⟨T1,hT1⟩:=mkT fun a:Unit=>⟨30,[],[]⟩
 refine EvL.jn T1 (fun a=>o1=.go a) ?_ ?_
 ·refine zab ?_;simp only[rnA];obtain⟨T2,hT2⟩:=mkT fun a:Int=>⟨30,[(0,(fzE false (eI .i64) p0)),(1,(fzE false (eI .i64) p1)),(2,(.clo 56 [] [])),(14,(dI (p0.length:Int))),(15,(dI a))],[]⟩
  refine EvL.rounds (α:=Int) T2 (fun n a=>zbX p0 p1 n a=some o1) ((p0.length:Int) - 0+2:Int).toNat 0 (by rw[hT2]; exact wm0 [] (by exact trivial)) j1 (fun _ h=>nomatch (show(none:Option (Out Unit Bool))=some o1 from h)) ?_;rintro n v15 j1;simp only[zbX]at j1;rw[congrFun hT2 v15];refine zab ?_;try simp only[rnA,Nat.reduceEqDiff,Nat.reduceLT,reduceCtorEq]
  cases c2:(decide (v15<(p0.length:Int)))
  ·rw[c2,cond_false]at j1;try simp only[rnA]
   replace j1:=qab j1; subst j1;exact lfj hT1 rfl (wm0 [] (by exact trivial))
  rw[c2,cond_true]at j1;obtain⟨x3,g4,j1⟩:=bind_some j1;obtain⟨x5,g6,j1⟩:=bind_some j1;obtain⟨r7,g8,j1⟩:=bind_some j1;try simp only[rnA,Nat.reduceEqDiff,Nat.reduceLT,reduceCtorEq,zai (n:=1) (e:=(eI .i64)) rfl g4,zai (n:=1) (e:=(eI .i64)) rfl g6]
  refine EvL.fnv rfl rfl (ziT g8) rfl (.cons (.lit _) (.cons (.lit _) .nil)) ?_;try simp only[rnA,Nat.reduceEqDiff,Nat.reduceLT,reduceCtorEq]
  cases c9:r7
  ·rw[c9,cond_false]at j1;try simp only[rnA,Nat.reduceLT]
   replace j1:=qab j1; subst j1;dsimp only at h;replace h:=qab h; subst h;exact za6.ret rfl (.lit _)
  rw[c9,cond_true]at j1;try simp only[rnA,Nat.reduceEqDiff,Nat.reduceLT,reduceCtorEq]
  exact⟨(w64 (v15+1)),j1,by rw[hT2]; exact wm0 [] (by exact trivial)⟩
 rintro⟨⟩ rfl;dsimp only at h;rw[congrFun hT1 ()];refine zab ?_;try simp only[rnA,Nat.reduceLT]
 replace h:=qab h; subst h;exact za6.ret rfl (.lit _)
def zbO(p0:(List Int))(p1:(List Int))(p2:Unit):Option Bool:=
(zbL p0 p1 ()).bind fun r1=>
some r1
theorem zhK{p0:(List Int)}{p1:(List Int)}{p2:Unit}{r:Bool}(h:zbO p0 p1 p2=some r):Lx.Fn mC 61 [(fzE false (eI .i64) p0),(fzE false (eI .i64) p1),(.fptr false [(.clo 56 [] [])])] (dB r):=by
 refine fnO (by conv=>lhs; cbv) ?_;unfold zbO at h;refine zab ?_;obtain⟨r1,g2,h⟩:=bind_some h;try simp only[rnA,Nat.reduceEqDiff,reduceIte,Nat.reduceLT,Nat.reduceAdd,Nat.reduceLeDiff,Nat.reduceMul,Nat.reduceSub,Int.reduceLE,Int.reduceLT,Int.reduceBEq,Nat.reduceBEq,reduceCtorEq]
 refine EvL.fn (zeN g2) rfl rfl (.cons (zan _ _ (fun h=>nomatch h)) (.cons (zan _ _ (fun h=>nomatch h)) (.cons (.clo rfl rfl (Snps.get .nil) (Snps.get .nil)) .nil))) ?_;try simp only[rnA,Nat.reduceEqDiff,reduceIte,Nat.reduceLT,Nat.reduceAdd,Nat.reduceLeDiff,Nat.reduceMul,Nat.reduceSub,Int.reduceLE,Int.reduceLT,Int.reduceBEq,Nat.reduceBEq,reduceCtorEq]
 replace h:=qab h; subst h;exact za6.ret rfl (.lit _)
def zbw(p0:(List (List Int)))(p1:(List (List Int))):Nat→Int→Option (Out Unit Bool)
 | 0,_=>none
 | n+1,v15=>(
bif (decide (v15<(p0.length:Int)))then(
(zaO p0 v15).bind fun x3=>
(zaO p1 v15).bind fun x5=>
(zbO x3 x5 ()).bind fun r7=>
bif r7 then(
zbw p0 p1 n (w64 (v15+1)))
else(
some (.ret false)))
else(
some (.go ())))
def zbK(p0:(List (List Int)))(p1:(List (List Int)))(p2:Unit):Option Bool:=
bif ((p0.length:Int)==(p1.length:Int))then(
((zbw p0 p1 ((p0.length:Int) - 0+2:Int).toNat 0:Option (Out Unit Bool))).bind fun o=>match o with
| .go _=>(
some true)
| .ret r=>some r)
else(
some false)
theorem zgs{p0:(List (List Int))}{p1:(List (List Int))}{p2:Unit}{r:Bool}(h:zbK p0 p1 p2=some r):Lx.Fn mC 60 [(fzE false (eL (eI .i64)) p0),(fzE false (eL (eI .i64)) p1),(.clo 61 [] [(.fptr false [(.clo 56 [] [])])])] (dB r):=by
 refine fnO (by conv=>lhs; cbv) ?_;unfold zbK at h;refine zab ?_;try simp only[rnA,Nat.reduceEqDiff,Nat.reduceLT,Nat.reduceAdd,reduceCtorEq,zaj]
 cases c1:((p0.length:Int)==(p1.length:Int))
 ·rw[c1,cond_false]at h;try simp only[rnA,Nat.reduceLT]
  replace h:=qab h; subst h;exact za6.ret rfl (.lit _)
 rw[c1,cond_true]at h;try simp only[rnA,Nat.reduceEqDiff,Nat.reduceLT,reduceCtorEq,zaj]
 obtain⟨o1,j1,h⟩:=bind_some h;obtain⟨T1,hT1⟩:=mkT fun a:Unit=>⟨30,[],[]⟩
 refine EvL.jn T1 (fun a=>o1=.go a) ?_ ?_
 ·refine zab ?_;simp only[rnA];obtain⟨T2,hT2⟩:=mkT fun a:Int=>⟨30,[(0,(fzE false (eL (eI .i64)) p0)),(1,(fzE false (eL (eI .i64)) p1)),(2,(.clo 61 [] [(.fptr false [(.clo 56 [] [])])])),(14,(dI (p0.length:Int))),(15,(dI a))],[]⟩
  refine EvL.rounds (α:=Int) T2 (fun n a=>zbw p0 p1 n a=some o1) ((p0.length:Int) - 0+2:Int).toNat 0 (by rw[hT2]; exact wm0 [] (by exact trivial)) j1 (fun _ h=>nomatch (show(none:Option (Out Unit Bool))=some o1 from h)) ?_;rintro n v15 j1;simp only[zbw]at j1;rw[congrFun hT2 v15];refine zab ?_;try simp only[rnA,Nat.reduceEqDiff,Nat.reduceLT,reduceCtorEq]
  cases c2:(decide (v15<(p0.length:Int)))
  ·rw[c2,cond_false]at j1;try simp only[rnA]
   replace j1:=qab j1; subst j1;exact lfj hT1 rfl (wm0 [] (by exact trivial))
  rw[c2,cond_true]at j1;obtain⟨x3,g4,j1⟩:=bind_some j1;obtain⟨x5,g6,j1⟩:=bind_some j1;obtain⟨r7,g8,j1⟩:=bind_some j1;try simp only[rnA,Nat.reduceEqDiff,Nat.reduceLT,reduceCtorEq,zai (n:=1) (e:=(eL (eI .i64))) rfl g4,zai (n:=1) (e:=(eL (eI .i64))) rfl g6]
  refine EvL.fnv rfl rfl (zhK g8) rfl (.cons (zan _ _ (fun h=>nomatch h)) (.cons (zan _ _ (fun h=>nomatch h)) (.cons (.fptr (fun h=>nomatch h) rfl (Snps.get (.cons (.clo rfl rfl (Snps.get .nil) (Snps.get .nil)) .nil))) .nil))) ?_;try simp only[rnA,Nat.reduceEqDiff,Nat.reduceLT,reduceCtorEq]
  cases c9:r7
  ·rw[c9,cond_false]at j1;try simp only[rnA,Nat.reduceLT]
   replace j1:=qab j1; subst j1;dsimp only at h;replace h:=qab h; subst h;exact za6.ret rfl (.lit _)
  rw[c9,cond_true]at j1;try simp only[rnA,Nat.reduceEqDiff,Nat.reduceLT,reduceCtorEq]
  exact⟨(w64 (v15+1)),j1,by rw[hT2]; exact wm0 [] (by exact trivial)⟩
 rintro⟨⟩ rfl;dsimp only at h;rw[congrFun hT1 ()];refine zab ?_;try simp only[rnA,Nat.reduceLT]
 replace h:=qab h; subst h;exact za6.ret rfl (.lit _)
def zcu(p0:S_api_Node)(p1:S_api_Node)(p2:Unit):Option Bool:=
((bif (p0.card == p1.card)then(
(zbL p0.parents p1.parents ()).bind fun r2=>
bif r2 then(
(zbK p0.rows p1.rows ()).bind fun r5=>
some r5)
else(
some false))
else(
some false):Option Bool)).bind fun v5=>
some v5
theorem zjG{p0:S_api_Node}{p1:S_api_Node}{p2:Unit}{r:Bool}(h:zcu p0 p1 p2=some r):Lx.Fn mC 58 [(.agg [(dI p0.card),(fzE false (eI .i64) p0.parents),(fzE false (eL (eI .i64)) p0.rows)]),(.agg [(dI p1.card),(fzE false (eI .i64) p1.parents),(fzE false (eL (eI .i64)) p1.rows)]),(.fptr false [(.clo 56 [] [])])] (dB r):=by
 refine fnO (by conv=>lhs; cbv) ?_;unfold zcu at h;refine zab ?_;try simp only[rnA,Nat.reduceEqDiff,Nat.reduceLT,Nat.reduceAdd,reduceCtorEq]
 obtain⟨o1,j1,h⟩:=bind_some h;obtain⟨T1,hT1⟩:=mkT fun a:Bool=>⟨27,[(5,(dB a))],[]⟩
 refine EvL.jn T1 (fun a=>a=o1) ?_ ?_
 ·refine zab ?_;try simp only[rnA,Nat.reduceEqDiff,Nat.reduceLT,reduceCtorEq]
  cases c1:(p0.card == p1.card)
  ·rw[c1,cond_false]at j1;try simp only[rnA,Nat.reduceEqDiff,Nat.reduceLT,reduceCtorEq]
   refine EvL.skip rfl ?_;try simp only[rnA,Nat.reduceEqDiff,Nat.reduceLT,reduceCtorEq]
   refine EvL.skip rfl ?_;try simp only[rnA,Nat.reduceEqDiff,Nat.reduceLT,reduceCtorEq]
   replace j1:=qab j1; subst j1;exact lfj hT1 rfl (wm0 [] (by exact trivial))
  rw[c1,cond_true]at j1;obtain⟨r2,g3,j1⟩:=bind_some j1;try simp only[rnA,Nat.reduceEqDiff,Nat.reduceLT,reduceCtorEq]
  refine EvL.fn (zeN g3) rfl rfl (.cons (zan _ _ (fun h=>nomatch h)) (.cons (zan _ _ (fun h=>nomatch h)) (.cons (.clo rfl rfl (Snps.get .nil) (Snps.get .nil)) .nil))) ?_;try simp only[rnA,Nat.reduceEqDiff,Nat.reduceLT,reduceCtorEq]
  cases c4:r2
  ·rw[c4,cond_false]at j1;try simp only[rnA,Nat.reduceEqDiff,Nat.reduceLT,reduceCtorEq]
   refine EvL.skip rfl ?_;try simp only[rnA,Nat.reduceEqDiff,Nat.reduceLT,reduceCtorEq]
   replace j1:=qab j1; subst j1;exact lfj hT1 rfl (wm0 [] (by exact trivial))
  rw[c4,cond_true]at j1;obtain⟨r5,g6,j1⟩:=bind_some j1;try simp only[rnA,Nat.reduceEqDiff,Nat.reduceLT,reduceCtorEq]
  refine EvL.fn (zgs g6) rfl rfl (.cons (zan _ _ (fun h=>nomatch h)) (.cons (zan _ _ (fun h=>nomatch h)) (.cons (.clo rfl rfl (Snps.get .nil) (Snps.get (.cons (.fptr (fun h=>nomatch h) rfl (Snps.get (.cons (.clo rfl rfl (Snps.get .nil) (Snps.get .nil)) .nil))) .nil))) .nil))) ?_;try simp only[rnA,Nat.reduceEqDiff,Nat.reduceLT,reduceCtorEq]
  replace j1:=qab j1; subst j1;exact lfj hT1 rfl (wm0 [] (by exact trivial))
 rintro v5 rfl;rw[congrFun hT1 v5];refine zab ?_;try simp only[rnA]
 replace h:=qab h; subst h;exact za6.ret rfl (.lit _)
def zdz(p0:(List S_api_Node))(p1:(List S_api_Node)):Nat→Int→Option (Out Unit Bool)
 | 0,_=>none
 | n+1,v15=>(
bif (decide (v15<(p0.length:Int)))then(
(zaO p0 v15).bind fun x3=>
(zaO p1 v15).bind fun x5=>
(zcu x3 x5 ()).bind fun r7=>
bif r7 then(
zdz p0 p1 n (w64 (v15+1)))
else(
some (.ret false)))
else(
some (.go ())))
def zef(p0:(List S_api_Node))(p1:(List S_api_Node))(p2:Unit):Option Bool:=
bif ((p0.length:Int)==(p1.length:Int))then(
((zdz p0 p1 ((p0.length:Int) - 0+2:Int).toNat 0:Option (Out Unit Bool))).bind fun o=>match o with
| .go _=>(
some true)
| .ret r=>some r)
else(
some false)
theorem zmc{p0:(List S_api_Node)}{p1:(List S_api_Node)}{p2:Unit}{r:Bool}(h:zef p0 p1 p2=some r):Lx.Fn mC 57 [(fzE false zaa p0),(fzE false zaa p1),(.clo 58 [] [(.fptr false [(.clo 56 [] [])])])] (dB r):=by
 refine fnO (by conv=>lhs; cbv) ?_;unfold zef at h;refine zab ?_;try simp only[rnA,Nat.reduceEqDiff,Nat.reduceLT,Nat.reduceAdd,reduceCtorEq,zaj]
 cases c1:((p0.length:Int)==(p1.length:Int))
 ·rw[c1,cond_false]at h;try simp only[rnA,Nat.reduceLT]
  replace h:=qab h; subst h;exact za6.ret rfl (.lit _)
 rw[c1,cond_true]at h;try simp only[rnA,Nat.reduceEqDiff,Nat.reduceLT,reduceCtorEq,zaj]
 obtain⟨o1,j1,h⟩:=bind_some h;obtain⟨T1,hT1⟩:=mkT fun a:Unit=>⟨30,[],[]⟩
 refine EvL.jn T1 (fun a=>o1=.go a) ?_ ?_
 ·refine zab ?_;simp only[rnA];obtain⟨T2,hT2⟩:=mkT fun a:Int=>⟨30,[(0,(fzE false zaa p0)),(1,(fzE false zaa p1)),(2,(.clo 58 [] [(.fptr false [(.clo 56 [] [])])])),(14,(dI (p0.length:Int))),(15,(dI a))],[]⟩
  refine EvL.rounds (α:=Int) T2 (fun n a=>zdz p0 p1 n a=some o1) ((p0.length:Int) - 0+2:Int).toNat 0 (by rw[hT2]; exact wm0 [] (by exact trivial)) j1 (fun _ h=>nomatch (show(none:Option (Out Unit Bool))=some o1 from h)) ?_;rintro n v15 j1;simp only[zdz]at j1;rw[congrFun hT2 v15];refine zab ?_;try simp only[rnA,Nat.reduceEqDiff,Nat.reduceLT,reduceCtorEq]
  cases c2:(decide (v15<(p0.length:Int)))
  ·rw[c2,cond_false]at j1;try simp only[rnA]
   replace j1:=qab j1; subst j1;exact lfj hT1 rfl (wm0 [] (by exact trivial))
  rw[c2,cond_true]at j1;obtain⟨x3,g4,j1⟩:=bind_some j1;obtain⟨x5,g6,j1⟩:=bind_some j1;obtain⟨r7,g8,j1⟩:=bind_some j1;try simp only[rnA,Nat.reduceEqDiff,Nat.reduceLT,Nat.reduceAdd,Nat.reduceLeDiff,reduceCtorEq,zac,zai (n:=3) (e:=zaa) rfl g4,zai (n:=3) (e:=zaa) rfl g6]
  refine EvL.fnv rfl rfl (zjG g8) rfl (.cons (.zcf (.cons (.lit _) (.cons (zan _ _ (fun h=>nomatch h)) (.cons (zan _ _ (fun h=>nomatch h)) .nil)))) (.cons (.zcf (.cons (.lit _) (.cons (zan _ _ (fun h=>nomatch h)) (.cons (zan _ _ (fun h=>nomatch h)) .nil)))) (.cons (.fptr (fun h=>nomatch h) rfl (Snps.get (.cons (.clo rfl rfl (Snps.get .nil) (Snps.get .nil)) .nil))) .nil))) ?_;try simp only[rnA,Nat.reduceEqDiff,Nat.reduceLT,reduceCtorEq]
  cases c9:r7
  ·rw[c9,cond_false]at j1;try simp only[rnA,Nat.reduceLT]
   replace j1:=qab j1; subst j1;dsimp only at h;replace h:=qab h; subst h;exact za6.ret rfl (.lit _)
  rw[c9,cond_true]at j1;try simp only[rnA,Nat.reduceEqDiff,Nat.reduceLT,reduceCtorEq]
  exact⟨(w64 (v15+1)),j1,by rw[hT2]; exact wm0 [] (by exact trivial)⟩
 rintro⟨⟩ rfl;dsimp only at h;rw[congrFun hT1 ()];refine zab ?_;try simp only[rnA,Nat.reduceLT]
 replace h:=qab h; subst h;exact za6.ret rfl (.lit _)
def zee(p0:S_api_Net)(p1:S_api_Net):Option Bool:=
(((za0 p0).bind fun r1=>
bif (r1 == 0)then(
(za0 p1).bind fun r4=>
bif (r4 == 0)then(
some (!(p0.grain == p1.grain)))
else(
some true))
else(
some true):Option Bool)).bind fun v20=>
bif v20 then(
some false)
else(
(zef p0.nodes p1.nodes ()).bind fun r8=>
some r8)
theorem zlk{p0:S_api_Net}{p1:S_api_Net}{r:Bool}(h:zee p0 p1=some r):Lx.Fn mC 18 [(.agg [(dI p0.grain),(fzE false zaa p0.nodes)]),(.agg [(dI p1.grain),(fzE false zaa p1.nodes)])] (dB r):=by
 refine fnO (by conv=>lhs; cbv) ?_;unfold zee at h;refine zab ?_;try simp only[rnA,Nat.reduceEqDiff,Nat.reduceLT,Nat.reduceAdd,reduceCtorEq]
 obtain⟨o1,j1,h⟩:=bind_some h;obtain⟨T1,hT1⟩:=mkT fun a:Bool=>⟨27,[(2,(.ptr 0 0)),(3,(.ptr 1 0)),(20,(dB a))],[.cells [(dI p0.grain),(fzE false zaa p0.nodes)],.cells [(dI p1.grain),(fzE false zaa p1.nodes)]]⟩
 refine EvL.jn T1 (fun a=>a=o1) ?_ ?_
 ·refine zab ?_;obtain⟨r1,g2,j1⟩:=bind_some j1;try simp only[rnA,Nat.reduceEqDiff,Nat.reduceLT,Nat.reduceAdd,Nat.reduceLeDiff,reduceCtorEq]
  refine EvL.fn (zeK g2) rfl rfl (.cons (.zcf (.cons (.lit _) (.cons (zan _ _ (fun h=>nomatch h)) .nil))) .nil) ?_;try simp only[rnA,Nat.reduceEqDiff,Nat.reduceLT,reduceCtorEq]
  cases c3:(r1 == 0)
  ·rw[c3,cond_false]at j1;try simp only[rnA,Nat.reduceLT]
   refine EvL.skip rfl ?_;try simp only[rnA,Nat.reduceEqDiff,Nat.reduceLT,reduceCtorEq]
   replace j1:=qab j1; subst j1;exact lfj hT1 rfl (wm0 [.k,.k] ⟨MB.cs ⟨qcG,qcG,qcG⟩,⟨MB.cs ⟨qcG,qcG,qcG⟩,qcG⟩⟩)
  rw[c3,cond_true]at j1;obtain⟨r4,g5,j1⟩:=bind_some j1;try simp only[rnA,Nat.reduceEqDiff,Nat.reduceLT,Nat.reduceAdd,Nat.reduceLeDiff,reduceCtorEq]
  refine EvL.fn (zeK g5) rfl rfl (.cons (.zcf (.cons (.lit _) (.cons (zan _ _ (fun h=>nomatch h)) .nil))) .nil) ?_;try simp only[rnA,Nat.reduceEqDiff,Nat.reduceLT,reduceCtorEq]
  cases c6:(r4 == 0)
  ·rw[c6,cond_false]at j1;try simp only[rnA,Nat.reduceEqDiff,Nat.reduceLT,reduceCtorEq]
   replace j1:=qab j1; subst j1;exact lfj hT1 rfl (wm0 [.k,.k] ⟨MB.cs ⟨qcG,qcG,qcG⟩,⟨MB.cs ⟨qcG,qcG,qcG⟩,qcG⟩⟩)
  rw[c6,cond_true]at j1;try simp only[rnA,Nat.reduceEqDiff,Nat.reduceLT,reduceCtorEq]
  replace j1:=qab j1; subst j1;exact lfj hT1 rfl (wm0 [.k,.k] ⟨MB.cs ⟨qcG,qcG,qcG⟩,⟨MB.cs ⟨qcG,qcG,qcG⟩,qcG⟩⟩)
 rintro v20 rfl;rw[congrFun hT1 v20];refine zab ?_;try simp only[rnA,Nat.reduceEqDiff]
 cases c7:v20
 ·rw[c7,cond_false]at h;obtain⟨r8,g9,h⟩:=bind_some h;try simp only[rnA,Nat.reduceEqDiff,Nat.reduceLT,Nat.reduceAdd,Nat.reduceLeDiff]
  refine EvL.fn (zmc g9) rfl rfl (.cons (zan _ _ (fun h=>nomatch h)) (.cons (zan _ _ (fun h=>nomatch h)) (.cons (.clo rfl rfl (Snps.get .nil) (Snps.get (.cons (.ptr rfl (qah rfl) (fun k d d' h1 h2=>(Snps.get (.cons (.clo rfl rfl (Snps.get .nil) (Snps.get .nil)) .nil)) k d d' (by rwa [qaU]at h1) h2)) .nil))) .nil))) ?_;try simp only[rnA,Nat.reduceEqDiff,Nat.reduceLT]
  replace h:=qab h; subst h;exact za6.ret rfl (.lit _)
 rw[c7,cond_true]at h;try simp only[rnA,Nat.reduceLT]
 replace h:=qab h; subst h;exact za6.ret rfl (.lit _)
def zdP(p0:(List Int)):Option (Int×Int):=
(zcD p0).bind fun r1=>
bif r1.2 then(
some (r1.1,0))
else(
some (0,20))
theorem zjC{p0:(List Int)}{r:(Int×Int)}(h:zdP p0=some r):Lx.Fn mC 54 [(fzE false (eI .i64) p0)] (.tup [(dI r.1),(dI r.2)]):=by
 refine fnO (by conv=>lhs; cbv) ?_;unfold zdP at h;refine zab ?_;obtain⟨r1,g2,h⟩:=bind_some h;try simp only[rnA,Nat.reduceEqDiff,reduceIte,Nat.reduceLT,Nat.reduceAdd,Nat.reduceLeDiff,Nat.reduceMul,Nat.reduceSub,Int.reduceLE,Int.reduceLT,Int.reduceBEq,Nat.reduceBEq,reduceCtorEq]
 refine EvL.fn (zhT g2) rfl rfl (.cons (zan _ _ (fun h=>nomatch h)) .nil) ?_;try simp only[rnA,Nat.reduceEqDiff,reduceIte,Nat.reduceLT,Nat.reduceAdd,Nat.reduceLeDiff,Nat.reduceMul,Nat.reduceSub,Int.reduceLE,Int.reduceLT,Int.reduceBEq,Nat.reduceBEq,reduceCtorEq]
 cases c3:r1.2
 ·rw[c3,cond_false]at h;try simp only[rnA,Nat.reduceEqDiff,reduceIte,Nat.reduceLT,Nat.reduceAdd,Nat.reduceLeDiff,Nat.reduceMul,Nat.reduceSub,Int.reduceLE,Int.reduceLT,Int.reduceBEq,Nat.reduceBEq,reduceCtorEq,c3]
  replace h:=qab h; subst h;exact za6.ret rfl (Snp.zj9 (.cons (.lit _) (.cons (.lit _) .nil)))
 rw[c3,cond_true]at h;try simp only[rnA,Nat.reduceEqDiff,reduceIte,Nat.reduceLT,Nat.reduceAdd,Nat.reduceLeDiff,Nat.reduceMul,Nat.reduceSub,Int.reduceLE,Int.reduceLT,Int.reduceBEq,Nat.reduceBEq,reduceCtorEq,c3]
 replace h:=qab h; subst h;exact za6.ret rfl (Snp.zj9 (.cons (.lit _) (.cons (.lit _) .nil)))
def zb3(p0:S_api_Net):Option (Int×Int):=
(zaN p0).bind fun r1=>
bif (r1.2 == 0)then(
(zdP r1.1.cards).bind fun r4=>
some (r4.1,r4.2))
else(
some (0,r1.2))
theorem zje{p0:S_api_Net}{r:(Int×Int)}(h:zb3 p0=some r):Lx.Fn mC 12 [(.agg [(dI p0.grain),(fzE false zaa p0.nodes)])] (.tup [(dI r.1),(dI r.2)]):=by
 refine fnO (by conv=>lhs; cbv) ?_;unfold zb3 at h;refine zab ?_;obtain⟨r1,g2,h⟩:=bind_some h;try simp only[rnA,Nat.reduceEqDiff,reduceIte,Nat.reduceLT,Nat.reduceAdd,Nat.reduceLeDiff,Nat.reduceMul,Nat.reduceSub,Int.reduceLE,Int.reduceLT,Int.reduceBEq,Nat.reduceBEq,reduceCtorEq,zac,zao,zc6]
 refine EvL.fnS (zfz g2) rfl rfl (.cons (Mzs.agg (.cons (.lit _) (.cons (zex _ _ (fun h=>by cases h<;>contradiction)) .nil))) .nil) ⟨⟨qcG,(zby _ _),qcG⟩,qcG⟩ ⟨⟨qcG,(zby _ _),(zby _ _),(zby _ _),(zby _ _),qcG⟩,qcG,qcG⟩ ?_;try simp only[rnA,Nat.reduceEqDiff,reduceIte,Nat.reduceLT,Nat.reduceAdd,Nat.reduceLeDiff,Nat.reduceMul,Nat.reduceSub,Int.reduceLE,Int.reduceLT,Int.reduceBEq,Nat.reduceBEq,reduceCtorEq,zac,zao]
 cases c3:(r1.2 == 0)
 ·rw[c3,cond_false]at h;try simp only[rnA,Nat.reduceEqDiff,reduceIte,Nat.reduceLT,Nat.reduceAdd,Nat.reduceLeDiff,Nat.reduceMul,Nat.reduceSub,Int.reduceLE,Int.reduceLT,Int.reduceBEq,Nat.reduceBEq,reduceCtorEq,zac,zao,c3]
  replace h:=qab h; subst h;exact za6.ret rfl (Snp.zj9 (.cons (.lit _) (.cons (.lit _) .nil)))
 rw[c3,cond_true]at h;obtain⟨r4,g5,h⟩:=bind_some h;try simp only[rnA,Nat.reduceEqDiff,reduceIte,Nat.reduceLT,Nat.reduceAdd,Nat.reduceLeDiff,Nat.reduceMul,Nat.reduceSub,Int.reduceLE,Int.reduceLT,Int.reduceBEq,Nat.reduceBEq,reduceCtorEq,zac,zao,c3]
 refine EvL.fn (zjC g5) rfl rfl (.cons (zan _ _ (fun h=>nomatch h)) .nil) ?_;try simp only[rnA,Nat.reduceEqDiff,reduceIte,Nat.reduceLT,Nat.reduceAdd,Nat.reduceLeDiff,Nat.reduceMul,Nat.reduceSub,Int.reduceLE,Int.reduceLT,Int.reduceBEq,Nat.reduceBEq,reduceCtorEq,zac,zao,c3]
 replace h:=qab h; subst h;exact za6.ret rfl (Snp.zj9 (.cons (.lit _) (.cons (.lit _) .nil)))
def zcx(r1:(S_net_network×Int)):Nat→Int→Int→Option Int
 | 0,_,_=>none
 | n+1,v6,v19=>(
bif (decide (v19<(r1.1.net.nodes.length:Int)))then(
zcx r1 n (w64 (v6 * r1.1.net.grain)) (w64 (v19+1)))
else(
some v6))
def zcn(p0:S_api_Net):Option (Int×Int):=
(zaN p0).bind fun r1=>
bif (r1.2 == 0)then(
((zcx r1 ((r1.1.net.nodes.length:Int) - 0+2:Int).toNat 1 0:Option Int)).bind fun v6=>
some (v6,0))
else(
some (0,r1.2))
theorem zkp{p0:S_api_Net}{r:(Int×Int)}(h:zcn p0=some r):Lx.Fn mC 13 [(.agg [(dI p0.grain),(fzE false zaa p0.nodes)])] (.tup [(dI r.1),(dI r.2)]):=by
 refine fnO (by conv=>lhs; cbv) ?_;unfold zcn at h;refine zab ?_;obtain⟨r1,g2,h⟩:=bind_some h;try simp only[rnA,Nat.reduceEqDiff,Nat.reduceLT,Nat.reduceAdd,Nat.reduceLeDiff,reduceCtorEq]
 refine EvL.fnS (zfz g2) rfl rfl (.cons (Mzs.agg (.cons (.lit _) (.cons (zex _ _ (fun h=>by cases h<;>contradiction)) .nil))) .nil) ⟨⟨qcG,(zby _ _),qcG⟩,qcG⟩ ⟨⟨qcG,(zby _ _),(zby _ _),(zby _ _),(zby _ _),qcG⟩,qcG,qcG⟩ ?_;try simp only[rnA,Nat.reduceEqDiff,Nat.reduceLT,Nat.reduceAdd,Nat.reduceLeDiff,reduceCtorEq]
 cases c3:(r1.2 == 0)
 ·rw[c3,cond_false]at h;try simp only[rnA,Nat.reduceEqDiff,Nat.reduceLT,reduceCtorEq]
  replace h:=qab h; subst h;exact za6.ret rfl (Snp.zj9 (.cons (.lit _) (.cons (.lit _) .nil)))
 rw[c3,cond_true]at h;try simp only[rnA,Nat.reduceEqDiff,Nat.reduceLT,reduceCtorEq,zaj]
 obtain⟨o1,j1,h⟩:=bind_some h;obtain⟨T1,hT1⟩:=mkT fun a:Int=>⟨28,[(6,(dI a))],[]⟩
 refine EvL.jn T1 (fun a=>a=o1) ?_ ?_
 ·refine zab ?_;simp only[rnA];obtain⟨T2,hT2⟩:=mkT fun a:(Int×Int)=>⟨28,[(4,(.ptr 1 0)),(6,(dI a.1)),(18,(dI (r1.1.net.nodes.length:Int))),(19,(dI a.2))],[.gone,.cells [(dI r1.1.net.grain),(fzE false zaa r1.1.net.nodes),(fzE false (eI .i64) r1.1.cards),(fzE false (eI .u64) r1.1.sets),(fzE false (eI .i64) r1.1.order)]]⟩
  refine EvL.rounds (α:=(Int×Int)) T2 (fun n a=>zcx r1 n a.1 a.2=some o1) ((r1.1.net.nodes.length:Int) - 0+2:Int).toNat (1,0) (by rw[hT2]; exact wm0 [.d,.k] ⟨rfl,⟨MB.cs ⟨qcG,qcG,qcG,qcG,qcG,qcG⟩,qcG⟩⟩) j1 (fun _ h=>nomatch (show(none:Option Int)=some o1 from h)) ?_;rintro n ⟨v6,v19⟩ j1;simp only[zcx]at j1;rw[congrFun hT2 (v6,v19)];refine zab ?_;try simp only[rnA,Nat.reduceEqDiff,Nat.reduceLT]
  cases c4:(decide (v19<(r1.1.net.nodes.length:Int)))
  ·rw[c4,cond_false]at j1;try simp only[rnA]
   replace j1:=qab j1; subst j1;exact lfj hT1 rfl (wm0 [] (by exact trivial))
  rw[c4,cond_true]at j1;try simp only[rnA,Nat.reduceEqDiff,Nat.reduceLT]
  exact⟨((w64 (v6 * r1.1.net.grain)),(w64 (v19+1))),j1,by rw[hT2]; exact wm0 [.d,.k] ⟨rfl,⟨MB.cs ⟨qcG,qcG,qcG,qcG,qcG,qcG⟩,qcG⟩⟩⟩
 rintro v6 rfl;rw[congrFun hT1 v6];refine zab ?_;try simp only[rnA,Nat.reduceEqDiff,Nat.reduceLT]
 replace h:=qab h; subst h;exact za6.ret rfl (Snp.zj9 (.cons (.lit _) (.cons (.lit _) .nil)))
def zcA(p0:S_api_Net):Nat→Int→Int→Option Int
 | 0,_,_=>none
 | n+1,v3,v4=>(
bif (decide (v4<(p0.nodes.length:Int)))then(
zcA p0 n (w64 (v3 * p0.grain)) (w64 (v4+1)))
else(
some v3))
def zdD(p0:S_api_Net):Option Int:=
((zcA p0 ((p0.nodes.length:Int) - 0+2:Int).toNat 1 0:Option Int)).bind fun v3=>
some v3
theorem zj0{p0:S_api_Net}{r:Int}(h:zdD p0=some r):Lx.Fn mC 15 [(.agg [(dI p0.grain),(fzE false zaa p0.nodes)])] (dI r):=by
 refine fnO (by conv=>lhs; cbv) ?_;unfold zdD at h;refine zab ?_;try simp only[rnA,Nat.reduceEqDiff,reduceIte,Nat.reduceLT,Nat.reduceAdd,Nat.reduceLeDiff,Nat.reduceMul,Nat.reduceSub,Int.reduceLE,Int.reduceLT,Int.reduceBEq,Nat.reduceBEq,reduceCtorEq,zac,zao,zc6]
 obtain⟨o1,j1,h⟩:=bind_some h;obtain⟨T1,hT1⟩:=mkT fun a:Int=>⟨17,[(3,(dI a))],[]⟩
 refine EvL.jn T1 (fun a=>a=o1) ?_ ?_
 ·refine zab ?_;simp only[rnA,Nat.reduceEqDiff,reduceIte,Nat.reduceLT,Nat.reduceAdd,Nat.reduceLeDiff,Nat.reduceMul,Nat.reduceSub,Int.reduceLE,Int.reduceLT,Int.reduceBEq,Nat.reduceBEq,reduceCtorEq,zac,zao];obtain⟨T2,hT2⟩:=mkT fun a:(Int×Int)=>⟨17,[(1,(.ptr 0 0)),(3,(dI a.1)),(4,(dI a.2))],[.cells [(dI p0.grain),(fzE false zaa p0.nodes)]]⟩
  refine EvL.rounds (α:=(Int×Int)) T2 (fun n a=>zcA p0 n a.1 a.2=some o1) ((p0.nodes.length:Int) - 0+2:Int).toNat (1,0) (by rw[hT2]; exact wm0 [.k] ⟨MB.cs ⟨qcG,qcG,qcG⟩,qcG⟩) j1 (fun _ h=>nomatch (show(none:Option Int)=some o1 from h)) ?_;rintro n ⟨v3,v4⟩ j1;simp only[zcA]at j1;rw[congrFun hT2 (v3,v4)];refine zab ?_;try simp only[rnA,Nat.reduceEqDiff,reduceIte,Nat.reduceLT,Nat.reduceAdd,Nat.reduceLeDiff,Nat.reduceMul,Nat.reduceSub,Int.reduceLE,Int.reduceLT,Int.reduceBEq,Nat.reduceBEq,reduceCtorEq,zac,zao,zaj]
  cases c1:(decide (v4<(p0.nodes.length:Int)))
  ·rw[c1,cond_false]at j1;try simp only[rnA,Nat.reduceEqDiff,reduceIte,Nat.reduceLT,Nat.reduceAdd,Nat.reduceLeDiff,Nat.reduceMul,Nat.reduceSub,Int.reduceLE,Int.reduceLT,Int.reduceBEq,Nat.reduceBEq,reduceCtorEq,zac,zao,c1]
   replace j1:=qab j1; subst j1;exact lfj hT1 rfl (wm0 [] (by exact trivial))
  rw[c1,cond_true]at j1;try simp only[rnA,Nat.reduceEqDiff,reduceIte,Nat.reduceLT,Nat.reduceAdd,Nat.reduceLeDiff,Nat.reduceMul,Nat.reduceSub,Int.reduceLE,Int.reduceLT,Int.reduceBEq,Nat.reduceBEq,reduceCtorEq,zac,zao,c1]
  exact⟨((w64 (v3 * p0.grain)),(w64 (v4+1))),j1,by rw[hT2]; exact wm0 [.k] ⟨MB.cs ⟨qcG,qcG,qcG⟩,qcG⟩⟩
 rintro v3 rfl;rw[congrFun hT1 v3];refine zab ?_;try simp only[rnA,Nat.reduceEqDiff,reduceIte,Nat.reduceLT,Nat.reduceAdd,Nat.reduceLeDiff,Nat.reduceMul,Nat.reduceSub,Int.reduceLE,Int.reduceLT,Int.reduceBEq,Nat.reduceBEq,reduceCtorEq,zac,zao]
 replace h:=qab h; subst h;exact za6.ret rfl (.lit _)
def zb1(p0:Int)(p1:Int)(p2:Int)(p3:Int):Option Bool:=
bif (p2 == 0)then(
((bif (p0 == p3)then(
some (p1 == 0))
else(
some false):Option Bool)).bind fun v8=>
some v8)
else(
((bif (p0 == 0)then(
some (p1 == p2))
else(
some false):Option Bool)).bind fun v8=>
some v8)
theorem zgh{p0:Int}{p1:Int}{p2:Int}{p3:Int}{r:Bool}(h:zb1 p0 p1 p2 p3=some r):Lx.Fn mC 17 [(dI p0),(dI p1),(dI p2),(dI p3)] (dB r):=by
 refine fnO (by conv=>lhs; cbv) ?_;unfold zb1 at h;refine zab ?_;try simp only[rnA,Nat.reduceEqDiff,Nat.reduceLT,Nat.reduceAdd,reduceCtorEq]
 cases c1:(p2 == 0)
 ·rw[c1,cond_false]at h;try simp only[rnA]
  obtain⟨o1,j1,h⟩:=bind_some h;obtain⟨T1,hT1⟩:=mkT fun a:Bool=>⟨25,[(8,(dB a))],[]⟩
  refine EvL.jn T1 (fun a=>a=o1) ?_ ?_
  ·refine zab ?_;try simp only[rnA,Nat.reduceEqDiff,Nat.reduceLT,reduceCtorEq]
   cases c2:(p0 == 0)
   ·rw[c2,cond_false]at j1;try simp only[rnA,Nat.reduceEqDiff,Nat.reduceLT,reduceCtorEq]
    replace j1:=qab j1; subst j1;exact lfj hT1 rfl (wm0 [] (by exact trivial))
   rw[c2,cond_true]at j1;try simp only[rnA,Nat.reduceEqDiff,Nat.reduceLT,reduceCtorEq]
   replace j1:=qab j1; subst j1;exact lfj hT1 rfl (wm0 [] (by exact trivial))
  rintro v8 rfl;rw[congrFun hT1 v8];refine zab ?_;try simp only[rnA]
  replace h:=qab h; subst h;exact za6.ret rfl (.lit _)
 rw[c1,cond_true]at h;try simp only[rnA]
 obtain⟨o2,j2,h⟩:=bind_some h;obtain⟨T2,hT2⟩:=mkT fun a:Bool=>⟨25,[(8,(dB a))],[]⟩
 refine EvL.jn T2 (fun a=>a=o2) ?_ ?_
 ·refine zab ?_;try simp only[rnA,Nat.reduceEqDiff,Nat.reduceLT,reduceCtorEq]
  cases c3:(p0 == p3)
  ·rw[c3,cond_false]at j2;try simp only[rnA,Nat.reduceEqDiff,Nat.reduceLT,reduceCtorEq]
   replace j2:=qab j2; subst j2;exact lfj hT2 rfl (wm0 [] (by exact trivial))
  rw[c3,cond_true]at j2;try simp only[rnA,Nat.reduceEqDiff,Nat.reduceLT,reduceCtorEq]
  replace j2:=qab j2; subst j2;exact lfj hT2 rfl (wm0 [] (by exact trivial))
 rintro v8 rfl;rw[congrFun hT2 v8];refine zab ?_;try simp only[rnA]
 replace h:=qab h; subst h;exact za6.ret rfl (.lit _)
end Go.Dc
