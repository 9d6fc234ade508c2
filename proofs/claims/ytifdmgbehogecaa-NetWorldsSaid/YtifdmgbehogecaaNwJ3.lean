/-
 What net_network_filled computes. Conditions: none.
-/
import Derived.Test.YtifdmgbehogecaaNwJ1
set_option linter.unusedSimpArgs false
set_option linter.unusedVariables false
set_option maxRecDepth 100000
set_option maxHeartbeats 4000000
namespace Go.Dc
open Go Go.Mx Go.Lx Go.Proofs
def zaT(p1:S_api_Node)(p0:S_net_network):Nat→Int→Int→Option Int
 | 0,_,_=>none
 | n+1,v5,v16=>(
bif (decide (v16<(p1.parents.length:Int)))then(
(zaF p1.parents v16).bind fun x2=>
(zaF p0.cards x2).bind fun x4=>
zaT p1 p0 n (w64 (v5 * x4)) (w64 (v16+1)))
else(
some v5))
def zav(y11:(Int×(List Int))):Nat→Int→Int→Option (Out Int Bool)
 | 0,_,_=>none
 | n+1,v10,v42=>(
bif (decide (v42<(y11.2.length:Int)))then(
(zaF y11.2 v42).bind fun x13=>
((bif (decide (x13<0))then(
some true)
else(
some (decide (v10<x13))):Option Bool)).bind fun v52=>
bif v52 then(
some (.ret false))
else(
zav y11 n (w64 (v10 - x13)) (w64 (v42+1))))
else(
some (.go v10)))
def zau(p0:S_net_network)(p1:S_api_Node):List (Int×(List Int))→Option (Out Unit Bool)
 | []=>some (.go ())
 | y11 :: ys=>(
((zav y11 ((y11.2.length:Int) - 0+2:Int).toNat p0.net.grain 0:Option (Out Int Bool))).bind fun o=>match o with
| .go v10=>(
((bif ((y11.2.length:Int)== p1.card)then(
some (!(v10 == 0)))
else(
some true):Option Bool)).bind fun v65=>
bif v65 then(
some (.ret false))
else(
zau p0 p1 ys))
| .ret r=>some (.ret r))
def zaH(p0:S_net_network)(p1:S_api_Node):Option Bool:=
((zaT p1 p0 ((p1.parents.length:Int) - 0+2:Int).toNat 1 0:Option Int)).bind fun v5=>
bif ((p1.rows.length:Int)== v5)then(
(zff p1).bind fun r7=>
(ze3 r7.rows).bind fun u9=>
((zau p0 p1 (zq1 r7.rows):Option (Out Unit Bool))).bind fun o=>match o with
| .go _=>(
some true)
| .ret r=>some r)
else(
some false)
theorem zfa{p0:S_net_network}{p1:S_api_Node}{r:Bool}(h:zaH p0 p1=some r):Lx.Fn mC 73 [(.agg [(dI p0.net.grain),(fzE false zaa p0.net.nodes),(fzE false (eI .i64) p0.cards),(fzE false (eI .u64) p0.sets),(fzE false (eI .i64) p0.order)]),(.agg [(dI p1.card),(fzE false (eI .i64) p1.parents),(fzE false (eL (eI .i64)) p1.rows)])] (dB r):=by
 refine fnO (by conv=>lhs; cbv) ?_;unfold zaH at h;refine zab ?_;try simp only[rnA,Nat.reduceEqDiff,Nat.reduceLT,Nat.reduceAdd,reduceCtorEq,zaj]
 obtain⟨o1,j1,h⟩:=bind_some h;obtain⟨T1,hT1⟩:=mkT fun a:Int=>⟨66,[(2,(.ptr 0 0)),(3,(.ptr 1 0)),(4,(.ptr 2 0)),(5,(dI a))],[.cells [(dI p0.net.grain),(fzE false zaa p0.net.nodes),(fzE false (eI .i64) p0.cards),(fzE false (eI .u64) p0.sets),(fzE false (eI .i64) p0.order)],.cells [(dI p1.card),(fzE false (eI .i64) p1.parents),(fzE false (eL (eI .i64)) p1.rows)],.cells [(dB false)]]⟩
 refine EvL.jn T1 (fun a=>a=o1) ?_ ?_
 ·refine zab ?_;simp only[rnA];obtain⟨T2,hT2⟩:=mkT fun a:(Int×Int)=>⟨66,[(2,(.ptr 0 0)),(3,(.ptr 1 0)),(4,(.ptr 2 0)),(5,(dI a.1)),(14,(fzE false (eI .i64) p1.parents)),(15,(dI (p1.parents.length:Int))),(16,(dI a.2))],[.cells [(dI p0.net.grain),(fzE false zaa p0.net.nodes),(fzE false (eI .i64) p0.cards),(fzE false (eI .u64) p0.sets),(fzE false (eI .i64) p0.order)],.cells [(dI p1.card),(fzE false (eI .i64) p1.parents),(fzE false (eL (eI .i64)) p1.rows)],.cells [(dB false)]]⟩
  refine EvL.rounds (α:=(Int×Int)) T2 (fun n a=>zaT p1 p0 n a.1 a.2=some o1) ((p1.parents.length:Int) - 0+2:Int).toNat (1,0) (by rw[hT2]; exact wm0 [.k,.k,.k] ⟨MB.cs ⟨qcK,qcK,qcK,qcK,qcK,qcK⟩,⟨MB.cs ⟨qcK,qcK,qcK,qcK⟩,⟨MB.cs ⟨qcK,qcK⟩,qcK⟩⟩⟩) j1 (fun _ h=>nomatch (show(none:Option Int)=some o1 from h)) ?_;rintro n ⟨v5,v16⟩ j1;simp only[zaT]at j1;rw[congrFun hT2 (v5,v16)];refine zab ?_;try simp only[rnA,Nat.reduceEqDiff,Nat.reduceLT]
  cases c1:(decide (v16<(p1.parents.length:Int)))
  ·rw[c1,cond_false]at j1;try simp only[rnA]
   replace j1:=qab j1; subst j1;exact lfj hT1 rfl (wm0 [.k,.k,.k] ⟨MB.cs ⟨qcK,qcK,qcK,qcK,qcK,qcK⟩,⟨MB.cs ⟨qcK,qcK,qcK,qcK⟩,⟨MB.cs ⟨qcK,qcK⟩,qcK⟩⟩⟩)
  rw[c1,cond_true]at j1;obtain⟨x2,g3,j1⟩:=bind_some j1;obtain⟨x4,g5,j1⟩:=bind_some j1;try simp only[rnA,Nat.reduceEqDiff,Nat.reduceLT,zai (n:=1) (e:=(eI .i64)) rfl g3,zai (n:=1) (e:=(eI .i64)) rfl g5]
  exact⟨((w64 (v5 * x4)),(w64 (v16+1))),j1,by rw[hT2]; exact wm0 [.k,.k,.k] ⟨MB.cs ⟨qcK,qcK,qcK,qcK,qcK,qcK⟩,⟨MB.cs ⟨qcK,qcK,qcK,qcK⟩,⟨MB.cs ⟨qcK,qcK⟩,qcK⟩⟩⟩⟩
 rintro v5 rfl;rw[congrFun hT1 v5];refine zab ?_;try simp only[rnA,Nat.reduceEqDiff,Nat.reduceLT,zaj]
 cases c6:((p1.rows.length:Int)== v5)
 ·rw[c6,cond_false]at h;try simp only[rnA,Nat.reduceEqDiff,Nat.reduceLeDiff]
  replace h:=qab h; subst h;exact zbe.ret rfl (.lit _)
 rw[c6,cond_true]at h;obtain⟨r7,g8,h⟩:=bind_some h;try simp only[rnA,Nat.reduceEqDiff,Nat.reduceLT,Nat.reduceAdd,Nat.reduceLeDiff]
 refine EvL.fnS (zlR g8) rfl rfl (.cons (Mzs.agg (.cons (.lit _) (.cons (zdU _ _ (fun h=>by cases h<;>contradiction)) (.cons (zdU _ _ (fun h=>by cases h<;>contradiction)) .nil)))) .nil) ⟨⟨qcK,(zbg _ _),(zbg _ _),qcK⟩,qcK⟩ ⟨qcK,⟨⟨rfl,zaa.fr _⟩,qcK⟩⟩ ?_;try simp only[rnA,Nat.reduceLT,zac]
 obtain⟨u9,g10,h⟩:=bind_some h;obtain⟨o12,j12,h⟩:=bind_some h;obtain⟨T12,hT12⟩:∃ T:Unit→List LB,T=(fun a=>[.cells [(dI p0.net.grain),(fzE false zaa p0.net.nodes),(fzE false (eI .i64) p0.cards),(fzE false (eI .u64) p0.sets),(fzE false (eI .i64) p0.order)],.cells [(dI p1.card),(fzE false (eI .i64) p1.parents),(fzE false (eL (eI .i64)) p1.rows)],.cells [(dB false)]]):=⟨_,rfl⟩;refine EvL.zec (S':=⟨66,[(2,(.ptr 0 0)),(3,(.ptr 1 0)),(4,(.ptr 2 0)),(34,(.clo 90 [] [(.fptr false (zaa.c false r7))]))],T12 ()⟩) (by rw[hT12]; exact wm0 [.k,.k,.k] ⟨MB.cs ⟨qcK,qcK,qcK,qcK,qcK,qcK⟩,⟨MB.cs ⟨qcK,qcK,qcK,qcK⟩,⟨MB.cs ⟨qcK,qcK⟩,qcK⟩⟩⟩) ?_;refine EvL.zok (n0:=3) (zll r7 g10) rfl (bm:=.block 3 (.seq (.reg false false [⟨some 37,.fld 0 (.s 2),none⟩,⟨some 38,.fld 0 (.s 37),none⟩,⟨some 39,.load none (.s 38),none⟩,⟨some 10,.mov (.s 39),none⟩]) (.seq (.seq (.reg false false [⟨some 40,.mov (.s 9),none⟩,⟨some 41,.len (.s 40),none⟩,⟨some 42,.mov (.c (.int .i64 0)),none⟩]) (.scope (.block 4 (.loop (.seq (.reg false false [⟨some 43,.bin .lss (.s 42) (.s 41),none⟩]) (.seq (.cond (.s 43) (.skip) (.exit 4)) (.seq (.block 5 (.seq (.reg false false [⟨some 44,.idxS 1 (.s 40) (.s 42),none⟩,⟨some 45,.load none (.s 44),none⟩,⟨some 12,.mov (.s 45),none⟩]) (.seq (.seq (.scope (.reg false false [⟨some 46,.mov (.s 12),none⟩,⟨some 47,.bin .lss (.s 46) (.c (.int .i64 0)),none⟩,⟨some 48,.mov (.s 47),none⟩,⟨some 49,.mov (.s 12),some (48,false)⟩,⟨some 50,.mov (.s 10),some (48,false)⟩,⟨some 51,.bin .gtr (.s 49) (.s 50),some (48,false)⟩,⟨some 52,.pick (.s 48) (.c (.bool true)) (.s 51),none⟩])) (.cond (.s 52) (.seq (.reg false false [⟨none,.store 1 (.s 4) (.c (.bool false)),none⟩]) (.ret)) (.skip))) (.reg false false [⟨some 53,.mov (.s 10),none⟩,⟨some 54,.mov (.s 12),none⟩,⟨some 55,.bin .sub (.s 53) (.s 54),none⟩,⟨some 10,.mov (.s 55),none⟩])))) (.reg false false [⟨some 56,.bin .add (.s 42) (.c (.int .i64 1)),none⟩,⟨some 42,.mov (.s 56),none⟩])))))))) (.seq (.scope (.reg false false [⟨some 57,.mov (.s 9),none⟩,⟨some 58,.len (.s 57),none⟩,⟨some 59,.fld 0 (.s 3),none⟩,⟨some 60,.load none (.s 59),none⟩,⟨some 61,.bin .neq (.s 58) (.s 60),none⟩,⟨some 62,.mov (.s 61),none⟩,⟨some 63,.mov (.s 10),some (62,false)⟩,⟨some 64,.bin .neq (.s 63) (.c (.int .i64 0)),some (62,false)⟩,⟨some 65,.pick (.s 62) (.c (.bool true)) (.s 64),none⟩])) (.cond (.s 65) (.seq (.reg false false [⟨none,.store 1 (.s 4) (.c (.bool false)),none⟩]) (.ret)) (.skip)))))) rfl T12 (fun i a=>zau p0 p1 ((zq1 r7.rows).drop i)=some o12) (fun x L1=>match x with | .normal=>∃ a,o12=.go a∧L1=T12 a | .ret=>L1.length=3∧zfM (3+1) L1∧(zbe [.cell 4 none] ((dB r))) .ret ⟨66,[(2,(.ptr 0 0)),(3,(.ptr 1 0)),(4,(.ptr 2 0)),(34,(.clo 90 [] [(.fptr false (zaa.c false r7))]))],L1 ++ [.lost]⟩| _=>False) () ?_ (qau _) ?_ ?_ ?_ (fun d L1 hx=>hx.elim) ?_ ?_ ?_ ?_ ?_ ?_
 ·intro a; rw[hT12]; rfl
 ·exact⟨(qah rfl),(qah rfl),(qah rfl),⟨qcK,⟨qcK,qcK⟩⟩,qcK⟩
 ·intro a; rw[hT12]; exact⟨⟨qcK,qcK,qcK,qcK,qcK,qcK⟩,⟨qcK,qcK,qcK,qcK⟩,⟨qcK,qcK⟩,qcK⟩
 ·intro x L1 hx;cases x with
  | normal=>obtain⟨a,_,rfl⟩:=hx; exact⟨by rw[hT12]; rfl,by rw[hT12]; exact⟨⟨qcK,qcK,qcK,qcK,qcK,qcK⟩,⟨qcK,qcK,qcK,qcK⟩,⟨qcK,qcK⟩,qcK⟩⟩
  | ret=>exact⟨hx.1,hx.2.1⟩
  | exit id=>exact hx.elim
  | panic d=>exact hx.elim
 ·exact j12
 ·rintro i ⟨⟩ y11 args G lpF hy hi12 ⟨rfl,rfl⟩ hkin;rw[znQ hy]at hi12;simp only[zau]at hi12;refine⟨_,_,rfl,rfl,?_⟩;rw[congrFun hT12 ()];refine zab ?_;try simp only[rnA,Nat.reduceEqDiff,Nat.reduceLT,Nat.reduceAdd,zac,zaj]
  obtain⟨o16,j16,hi12⟩:=bind_some hi12;obtain⟨T16,hT16⟩:=mkT fun a:Int=>⟨66,[(3,(.ptr 1 0)),(4,(.ptr 2 0)),(9,(fzE false (eI .i64) y11.2)),(10,(dI a))],[.cells [(dI p0.net.grain),(fzE false zaa p0.net.nodes),(fzE false (eI .i64) p0.cards),(fzE false (eI .u64) p0.sets),(fzE false (eI .i64) p0.order)],.cells [(dI p1.card),(fzE false (eI .i64) p1.parents),(fzE false (eL (eI .i64)) p1.rows)],.cells [(dB false)],lpF]⟩
  refine EvL.jn T16 (fun a=>o16=.go a) ?_ ?_
  ·refine zab ?_;simp only[rnA];obtain⟨T19,hT19⟩:=mkT fun a:(Int×Int)=>⟨66,[(3,(.ptr 1 0)),(4,(.ptr 2 0)),(9,(fzE false (eI .i64) y11.2)),(10,(dI a.1)),(40,(fzE false (eI .i64) y11.2)),(41,(dI (y11.2.length:Int))),(42,(dI a.2))],[.cells [(dI p0.net.grain),(fzE false zaa p0.net.nodes),(fzE false (eI .i64) p0.cards),(fzE false (eI .u64) p0.sets),(fzE false (eI .i64) p0.order)],.cells [(dI p1.card),(fzE false (eI .i64) p1.parents),(fzE false (eL (eI .i64)) p1.rows)],.cells [(dB false)],lpF]⟩
   refine EvL.rounds (α:=(Int×Int)) T19 (fun n a=>zav y11 n a.1 a.2=some o16) ((y11.2.length:Int) - 0+2:Int).toNat (p0.net.grain,0) (by rw[hT19]; exact zbx.mK (k0:=4) [.k,.k,.k,.k] rfl rfl (msq (msq (msq (msq (msq (msq (msq trivial))))))) ⟨MB.cs ⟨qcK,qcK,qcK,qcK,qcK,qcK⟩,⟨MB.cs ⟨qcK,qcK,qcK,qcK⟩,⟨MB.cs ⟨qcK,qcK⟩,⟨.same (hkin _ (by decide)),qcK⟩⟩⟩⟩) j16 (fun _ h=>nomatch (show(none:Option (Out Int Bool))=some o16 from h)) ?_;rintro n ⟨v10,v42⟩ j16;simp only[zav]at j16;rw[congrFun hT19 (v10,v42)];refine zab ?_;try simp only[rnA,Nat.reduceEqDiff,Nat.reduceLT]
   cases c12:(decide (v42<(y11.2.length:Int)))
   ·rw[c12,cond_false]at j16;try simp only[rnA,Nat.reduceEqDiff]
    replace j16:=qab j16; subst j16;exact⟨_,rfl,by rw[hT16]; exact zbx.mK (k0:=4) [.k,.k,.k,.k] rfl rfl (msq (msq (msq (msq trivial)))) ⟨MB.cs ⟨qcK,qcK,qcK,qcK,qcK,qcK⟩,⟨MB.cs ⟨qcK,qcK,qcK,qcK⟩,⟨MB.cs ⟨qcK,qcK⟩,⟨.same (hkin _ (by decide)),qcK⟩⟩⟩⟩⟩
   rw[c12,cond_true]at j16;obtain⟨x13,g14,j16⟩:=bind_some j16;try simp only[rnA,Nat.reduceEqDiff,Nat.reduceLT,zai (n:=1) (e:=(eI .i64)) rfl g14]
   obtain⟨o20,j20,j16⟩:=bind_some j16;obtain⟨T20,hT20⟩:=mkT fun a:Bool=>⟨66,[(3,(.ptr 1 0)),(4,(.ptr 2 0)),(9,(fzE false (eI .i64) y11.2)),(10,(dI v10)),(12,(dI x13)),(40,(fzE false (eI .i64) y11.2)),(41,(dI (y11.2.length:Int))),(42,(dI v42)),(52,(dB a))],[.cells [(dI p0.net.grain),(fzE false zaa p0.net.nodes),(fzE false (eI .i64) p0.cards),(fzE false (eI .u64) p0.sets),(fzE false (eI .i64) p0.order)],.cells [(dI p1.card),(fzE false (eI .i64) p1.parents),(fzE false (eL (eI .i64)) p1.rows)],.cells [(dB false)],lpF]⟩
   refine EvL.jn T20 (fun a=>a=o20) ?_ ?_
   ·refine zab ?_;try simp only[rnA,Nat.reduceEqDiff,Nat.reduceLT]
    cases c15:(decide (x13<0))
    ·rw[c15,cond_false]at j20;try simp only[rnA,Nat.reduceEqDiff,Nat.reduceLT]
     replace j20:=qab j20; subst j20;exact⟨_,rfl,by rw[hT20]; exact zbx.mK (k0:=4) [.k,.k,.k,.k] rfl rfl (msq (msq (msq (msq (msq (msq (msq (msq (msq trivial))))))))) ⟨MB.cs ⟨qcK,qcK,qcK,qcK,qcK,qcK⟩,⟨MB.cs ⟨qcK,qcK,qcK,qcK⟩,⟨MB.cs ⟨qcK,qcK⟩,⟨.same (hkin _ (by decide)),qcK⟩⟩⟩⟩⟩
    rw[c15,cond_true]at j20;try simp only[rnA,Nat.reduceEqDiff,Nat.reduceLT]
    replace j20:=qab j20; subst j20;exact⟨_,rfl,by rw[hT20]; exact zbx.mK (k0:=4) [.k,.k,.k,.k] rfl rfl (msq (msq (msq (msq (msq (msq (msq (msq (msq trivial))))))))) ⟨MB.cs ⟨qcK,qcK,qcK,qcK,qcK,qcK⟩,⟨MB.cs ⟨qcK,qcK,qcK,qcK⟩,⟨MB.cs ⟨qcK,qcK⟩,⟨.same (hkin _ (by decide)),qcK⟩⟩⟩⟩⟩
   rintro v52 rfl;rw[congrFun hT20 v52];refine zab ?_;try simp only[rnA,Nat.reduceEqDiff]
   cases c16:v52
   ·rw[c16,cond_false]at j16;try simp only[rnA,Nat.reduceEqDiff,Nat.reduceLT]
    exact⟨((w64 (v10 - x13)),(w64 (v42+1))),j16,by rw[hT19]; exact zbx.mK (k0:=4) [.k,.k,.k,.k] rfl rfl (msq (msq (msq (msq (msq (msq (msq trivial))))))) ⟨MB.cs ⟨qcK,qcK,qcK,qcK,qcK,qcK⟩,⟨MB.cs ⟨qcK,qcK,qcK,qcK⟩,⟨MB.cs ⟨qcK,qcK⟩,⟨.same (hkin _ (by decide)),qcK⟩⟩⟩⟩⟩
   rw[c16,cond_true]at j16;try simp only[rnA,Nat.reduceEqDiff,Nat.reduceLeDiff]
   replace j16:=qab j16; subst j16;dsimp only at hi12;replace hi12:=qab hi12; subst hi12;dsimp only at h;replace h:=qab h; subst h;exact⟨[.cells [(dI p0.net.grain),(fzE false zaa p0.net.nodes),(fzE false (eI .i64) p0.cards),(fzE false (eI .u64) p0.sets),(fzE false (eI .i64) p0.order)],.cells [(dI p1.card),(fzE false (eI .i64) p1.parents),(fzE false (eL (eI .i64)) p1.rows)],.cells [(dB false)]],rfl,zbx.mK [.k,.k,.k,.k] rfl rfl qcK ⟨MB.cs ⟨qcK,qcK,qcK,qcK,qcK,qcK⟩,⟨MB.cs ⟨qcK,qcK,qcK,qcK⟩,⟨MB.cs ⟨qcK,qcK⟩,⟨.same (hkin _ (by decide)),qcK⟩⟩⟩⟩,rfl,⟨⟨qcK,qcK,qcK,qcK,qcK,qcK⟩,⟨qcK,qcK,qcK,qcK⟩,⟨qcK,qcK⟩,qcK⟩,zbe.ret rfl (.lit _)⟩
  rintro v10 rfl;dsimp only at hi12;rw[congrFun hT16 v10];refine zab ?_;try simp only[rnA]
  obtain⟨o21,j21,hi12⟩:=bind_some hi12;obtain⟨T21,hT21⟩:=mkT fun a:Bool=>⟨66,[(4,(.ptr 2 0)),(65,(dB a))],[.cells [(dI p0.net.grain),(fzE false zaa p0.net.nodes),(fzE false (eI .i64) p0.cards),(fzE false (eI .u64) p0.sets),(fzE false (eI .i64) p0.order)],.cells [(dI p1.card),(fzE false (eI .i64) p1.parents),(fzE false (eL (eI .i64)) p1.rows)],.cells [(dB false)],lpF]⟩
  refine EvL.jn T21 (fun a=>a=o21) ?_ ?_
  ·refine zab ?_;try simp only[rnA,Nat.reduceEqDiff,Nat.reduceLT,zaj]
   cases c17:((y11.2.length:Int)== p1.card)
   ·rw[c17,cond_false]at j21;try simp only[rnA,Nat.reduceEqDiff,Nat.reduceLT]
    replace j21:=qab j21; subst j21;exact⟨_,rfl,by rw[hT21]; exact zbx.mK (k0:=4) [.k,.k,.k,.k] rfl rfl (msq (msq trivial)) ⟨MB.cs ⟨qcK,qcK,qcK,qcK,qcK,qcK⟩,⟨MB.cs ⟨qcK,qcK,qcK,qcK⟩,⟨MB.cs ⟨qcK,qcK⟩,⟨.same (hkin _ (by decide)),qcK⟩⟩⟩⟩⟩
   rw[c17,cond_true]at j21;try simp only[rnA,Nat.reduceEqDiff,Nat.reduceLT]
   replace j21:=qab j21; subst j21;exact⟨_,rfl,by rw[hT21]; exact zbx.mK (k0:=4) [.k,.k,.k,.k] rfl rfl (msq (msq trivial)) ⟨MB.cs ⟨qcK,qcK,qcK,qcK,qcK,qcK⟩,⟨MB.cs ⟨qcK,qcK,qcK,qcK⟩,⟨MB.cs ⟨qcK,qcK⟩,⟨.same (hkin _ (by decide)),qcK⟩⟩⟩⟩⟩
  rintro v65 rfl;rw[congrFun hT21 v65];refine zab ?_;try simp only[rnA,Nat.reduceEqDiff]
  cases c18:v65
  ·rw[c18,cond_false]at hi12;try simp only[rnA]
   exact⟨T12 (),by rw[hT12]; rfl,by rw[hT12]; exact zbx.mK [.k,.k,.k,.k] rfl rfl qcK ⟨MB.cs ⟨qcK,qcK,qcK,qcK,qcK,qcK⟩,⟨MB.cs ⟨qcK,qcK,qcK,qcK⟩,⟨MB.cs ⟨qcK,qcK⟩,⟨.same (hkin _ (by decide)),qcK⟩⟩⟩⟩,(),hi12,rfl⟩
  rw[c18,cond_true]at hi12;try simp only[rnA,Nat.reduceEqDiff,Nat.reduceLeDiff]
  replace hi12:=qab hi12; subst hi12;dsimp only at h;replace h:=qab h; subst h;exact⟨[.cells [(dI p0.net.grain),(fzE false zaa p0.net.nodes),(fzE false (eI .i64) p0.cards),(fzE false (eI .u64) p0.sets),(fzE false (eI .i64) p0.order)],.cells [(dI p1.card),(fzE false (eI .i64) p1.parents),(fzE false (eL (eI .i64)) p1.rows)],.cells [(dB false)]],rfl,zbx.mK [.k,.k,.k,.k] rfl rfl qcK ⟨MB.cs ⟨qcK,qcK,qcK,qcK,qcK,qcK⟩,⟨MB.cs ⟨qcK,qcK,qcK,qcK⟩,⟨MB.cs ⟨qcK,qcK⟩,⟨.same (hkin _ (by decide)),qcK⟩⟩⟩⟩,rfl,⟨⟨qcK,qcK,qcK,qcK,qcK,qcK⟩,⟨qcK,qcK,qcK,qcK⟩,⟨qcK,qcK⟩,qcK⟩,zbe.ret rfl (.lit _)⟩
 ·rintro⟨⟩ hi12;rw[List.drop_length]at hi12;simp only[zau]at hi12;exact⟨(),(qab hi12).symm,rfl⟩
 ·rintro _ ⟨⟨⟩,rfl,rfl⟩;dsimp only at h;rw[congrFun hT12 ()];refine zab ?_;try simp only[rnA,Nat.reduceEqDiff,Nat.reduceLeDiff,zac]
  replace h:=qab h; subst h;exact zbe.ret rfl (.lit _)
 ·intro id L1 hx; exact hx.elim
 intro L1 hx; exact hx.2.2
def za5(p0:(List Int))(v5:Int)(C1:Nat):Nat→Int→(List Int)→Option (Out3 Unit (Int×(List Int)) ((List Int)×Bool))
 | 0,_,_=>none
 | n+1,v18,l0'=>(
bif (decide (v18<(p0.length:Int)))then(
(zaF p0 v18).bind fun x5=>
(((zi2 .u64 v5 v18).bind fun q7=>
bif ((zlo .u64 q7 1)== 0)then(
some (((zus .u64 x5 v5)== 0),l0'))
else(
some (false,l0')):Option ((Bool×(List Int))))).bind fun o=>match o with
|(v33,l0'')=>(
bif v33 then(
(zmo C1 l0'' [v18]).bind fun y11=>
(znn .u64 1 v18).bind fun q13=>
some (.brk ((orI .u64 v5 q13),y11)))
else(
za5 p0 v5 C1 n (w64 (v18+1)) l0'')))
else(
some (.go ())))
def zbb(p0:(List Int))(C1:Nat):Nat→Int→(List Int)→Option (Out (List Int) ((List Int)×Bool))
 | 0,_,_=>none
 | n+1,v5,l0=>(
bif (decide (((l0.length:Nat):Int)<(p0.length:Int)))then(
((za5 p0 v5 C1 ((p0.length:Int) - 0+2:Int).toNat 0 l0:Option (Out3 Unit (Int×(List Int)) ((List Int)×Bool)))).bind fun o=>match o with
| .go _=>(
some (.ret ([],false)))
| .brk (v5',l0')=>(
zbb p0 C1 n v5' l0')
| .ret r=>some (.ret r))
else(
some (.go l0)))
def zbI(p0:(List Int)):Option ((List Int)×Bool):=
(zsV 8 (p0.length:Int)).bind fun C1=>
((zbb p0 C1 ((p0.length:Int) - ((([]:List Int).length:Nat):Int)+2:Int).toNat 0 ([]:List Int):Option (Out (List Int) ((List Int)×Bool)))).bind fun o=>match o with
| .go l0=>(
some (l0,true))
| .ret r=>some r
theorem zje{p0:(List Int)}{r:((List Int)×Bool)}(h:zbI p0=some r):Lx.Fn mC 74 [(fzE false (eI .u64) p0)] (.tup [(fzE true (eI .i64) r.1),(dB r.2)]):=by
 refine fnO (by conv=>lhs; cbv) ?_;unfold zbI at h;refine zab ?_;try simp only[rnA,Nat.reduceLT]
 refine EvL.scope (zab ?_);obtain⟨C1,g2,h⟩:=bind_some h;try simp only[rnA,Nat.reduceEqDiff,Nat.reduceLT,reduceCtorEq,zaj,(zi5 g2).1.1,(zi5 g2).1.2,(zi5 g2).2,qca,qcz,(show List.replicate C1 [(dI 0)]=(room [] C1 0).map ((eI .i64).c true)from zrO g2 0 ((eI .i64).c true))]
 obtain⟨o84,j84,h⟩:=bind_some h;obtain⟨T84,hT84⟩:=mkT fun a:(List Int)=>⟨44,[(4,(.sl 0 0 1 a.length (some C1) C1))],[.els 1 ((room a C1 0).map ((eI .i64).c true))]⟩
 refine EvL.jn T84 (fun a=>o84=.go a∧a.length≤C1) ?_ ?_
 ·refine zab ?_;simp only[rnA];obtain⟨T103,hT103⟩:=mkT fun a:(Int×(List Int))=>⟨44,[(0,(fzE false (eI .u64) p0)),(4,(.sl 0 0 1 a.2.length (some C1) C1)),(5,(dU a.1))],[.els 1 ((room a.2 C1 0).map ((eI .i64).c true))]⟩
  refine EvL.rounds (α:=(Int×(List Int))) T103 (fun n a=>zbb p0 C1 n a.1 a.2=some o84∧a.2.length≤C1) ((p0.length:Int) - ((([]:List Int).length:Nat):Int)+2:Int).toNat (0,([]:List Int)) (by rw[hT103]; exact wm0 [.k] ⟨MB.es (eI .i64) true (room ([]:List Int) C1 0),qcK⟩) ⟨j84,(qau _)⟩ (fun _ h=>nomatch (show(none:Option (Out (List Int) ((List Int)×Bool)))=some o84 from h.1)) ?_;rintro n ⟨v5,l0⟩ ⟨j84,el0⟩;simp only[zbb]at j84;rw[congrFun hT103 (v5,l0)];refine zab ?_;try simp only[rnA,Nat.reduceEqDiff,Nat.reduceLT,reduceCtorEq,zg2 el0 0,zaj]
  cases c3:(decide (((l0.length:Nat):Int)<(p0.length:Int)))
  ·rw[c3,cond_false]at j84;try simp only[rnA]
   replace j84:=qab j84; subst j84;exact⟨_,⟨rfl,el0⟩,by rw[hT84]; exact wm0 [.k] ⟨MB.es (eI .i64) true (room l0 C1 0),qcK⟩⟩
  rw[c3,cond_true]at j84;try simp only[rnA,Nat.reduceEqDiff,Nat.reduceLT,reduceCtorEq,zaj]
  obtain⟨o108,j108,j84⟩:=bind_some j84;obtain⟨T108,hT108⟩:=mkT fun a:Unit=>⟨44,[],[]⟩
  obtain⟨TB108,hTB108⟩:∃ T:(Int×(List Int))→LSt,T=(fun a=>⟨44,[(0,(fzE false (eI .u64) p0)),(4,(.sl 0 0 1 a.2.length (some C1) C1)),(5,(dU a.1))],[.els 1 ((room a.2 C1 0).map ((eI .i64).c true))]⟩):=⟨_,rfl⟩;refine EvL.jn2 (id:=1) T108 (fun a=>o108=.go a) TB108 (fun a=>o108=.brk a∧a.2.length≤C1) (fun id S hx=>by first | (rcases hx with⟨hx | hx,_⟩<;> cases hx)| exact hx.elim) ?_ ?_ ?_
  ·refine zab ?_;simp only[rnA];obtain⟨T111,hT111⟩:=mkT fun a:(Int×(List Int))=>⟨44,[(0,(fzE false (eI .u64) p0)),(4,(.sl 0 0 1 a.2.length (some C1) C1)),(5,(dU v5)),(16,(fzE false (eI .u64) p0)),(17,(dI (p0.length:Int))),(18,(dI a.1))],[.els 1 ((room a.2 C1 0).map ((eI .i64).c true))]⟩
   refine EvL.rounds (α:=(Int×(List Int))) T111 (fun n a=>za5 p0 v5 C1 n a.1 a.2=some o108∧a.2.length≤C1) ((p0.length:Int) - 0+2:Int).toNat (0,l0) (by rw[hT111]; exact wm0 [.k] ⟨MB.es (eI .i64) true (room l0 C1 0),qcK⟩) ⟨j108,el0⟩ (fun _ h=>nomatch (show(none:Option (Out3 Unit (Int×(List Int)) ((List Int)×Bool)))=some o108 from h.1)) ?_;rintro n ⟨v18,l0'⟩ ⟨j108,el0'⟩;simp only[za5]at j108;rw[congrFun hT111 (v18,l0')];refine zab ?_;try simp only[rnA,Nat.reduceEqDiff,Nat.reduceLT,reduceCtorEq]
   cases c4:(decide (v18<(p0.length:Int)))
   ·rw[c4,cond_false]at j108;try simp only[rnA,Nat.reduceEqDiff]
    replace j108:=qab j108; subst j108;exact lfj hT108 rfl (wm0 [] (by exact trivial))
   rw[c4,cond_true]at j108;obtain⟨x5,g6,j108⟩:=bind_some j108;try simp only[rnA,Nat.reduceEqDiff,Nat.reduceLT,reduceCtorEq,zai (n:=1) (e:=(eI .u64)) rfl g6]
   obtain⟨o112,j112,j108⟩:=bind_some j108;obtain⟨T112,hT112⟩:=mkT fun a:(Bool×(List Int))=>⟨44,[(0,(fzE false (eI .u64) p0)),(4,(.sl 0 0 1 a.2.length (some C1) C1)),(5,(dU v5)),(6,(dI v18)),(16,(fzE false (eI .u64) p0)),(17,(dI (p0.length:Int))),(18,(dI v18)),(33,(dB a.1))],[.els 1 ((room a.2 C1 0).map ((eI .i64).c true))]⟩
   refine EvL.jn T112 (fun a=>a=o112∧a.2.length≤C1) ?_ ?_
   ·refine zab ?_;obtain⟨q7,g8,j112⟩:=bind_some j112;try simp only[rnA,Nat.reduceEqDiff,Nat.reduceLT,reduceCtorEq,(zc9 g8).1,(zc9 g8).2]
    cases c9:((zlo .u64 q7 1)== 0)
    ·rw[c9,cond_false]at j112;try simp only[rnA,Nat.reduceEqDiff,Nat.reduceLT,reduceCtorEq]
     replace j112:=qab j112; subst j112;exact⟨_,⟨rfl,el0'⟩,by rw[hT112]; exact wm0 [.k] ⟨MB.es (eI .i64) true (room l0' C1 0),qcK⟩⟩
    rw[c9,cond_true]at j112;try simp only[rnA,Nat.reduceEqDiff,Nat.reduceLT,reduceCtorEq]
    replace j112:=qab j112; subst j112;exact⟨_,⟨rfl,el0'⟩,by rw[hT112]; exact wm0 [.k] ⟨MB.es (eI .i64) true (room l0' C1 0),qcK⟩⟩
   rintro⟨v33,l0''⟩ ⟨rfl,el0''⟩;dsimp only at j108;rw[congrFun hT112 (v33,l0'')];refine zab ?_;try simp only[rnA,Nat.reduceEqDiff,reduceCtorEq]
   cases c10:v33
   ·rw[c10,cond_false]at j108;try simp only[rnA,Nat.reduceEqDiff,Nat.reduceLT,reduceCtorEq]
    exact⟨((w64 (v18+1)),l0''),⟨j108,el0''⟩,by rw[hT111]; exact wm0 [.k] ⟨MB.es (eI .i64) true (room l0'' C1 0),qcK⟩⟩
   rw[c10,cond_true]at j108;obtain⟨y11,g12,j108⟩:=bind_some j108;obtain⟨q13,g14,j108⟩:=bind_some j108;try simp only[rnA,Nat.reduceEqDiff,Nat.reduceLT,Nat.reduceAdd,Nat.reduceLeDiff,reduceCtorEq,zg2 el0'' 0,(show l0''.length+1=y11.length from zlw g12),znf g12,(show((room l0'' C1 0).map ((eI .i64).c true)).take l0''.length ++ [[(dI v18)]]++ ((room l0'' C1 0).map ((eI .i64).c true)).drop y11.length=(room y11 C1 0).map ((eI .i64).c true)from zpB g12 0 ((eI .i64).c true)),(zd2 g14).1,(zd2 g14).2]
   replace j108:=qab j108; subst j108;exact⟨_,⟨rfl,(znf g12)⟩,by rw[hTB108]; exact wm0 [.k] ⟨MB.es (eI .i64) true (room y11 C1 0),qcK⟩⟩
  ·rintro⟨⟩ rfl;dsimp only at j84;rw[congrFun hT108 ()];refine zab ?_;try simp only[rnA,Nat.reduceLT]
   replace j84:=qab j84; subst j84;dsimp only at h;replace h:=qab h; subst h;exact zbe.ret rfl (Snp.zjM (.cons (zaL (eI .i64)) (.cons (.lit _) .nil)))
  rintro⟨v5',l0'⟩ ⟨rfl,el0'⟩;dsimp only at j84;rw[congrFun hTB108 (v5',l0')];refine zab ?_;try simp only[rnA,reduceCtorEq]
  exact⟨(v5',l0'),⟨j84,el0'⟩,by rw[hT103]; exact wm0 [.k] ⟨MB.es (eI .i64) true (room l0' C1 0),qcK⟩⟩
 rintro l0 ⟨rfl,el0⟩;dsimp only at h;rw[congrFun hT84 l0];refine zab ?_;try simp only[rnA,Nat.reduceEqDiff,Nat.reduceLT]
 replace h:=qab h; subst h;exact zbe.ret rfl (Snp.zjM (.cons (zsc (e:=(eI .i64)) (t:=true) (z:=0) rfl rfl el0 (fun _=>rfl)) (.cons (.lit _) .nil)))
def zbl(p0:S_api_Net):Nat→Int→Int→(List Int)→Option (Out (Int×(List Int)) (S_net_network×Int))
 | 0,_,_,_=>none
 | n+1,v5,v50,l2=>(
bif (decide (v50<(p0.nodes.length:Int)))then(
(zaF p0.nodes v50).bind fun x10=>
((bif (decide (x10.card<1))then(
some true)
else(
some (decide (4<x10.card))):Option Bool)).bind fun v62=>
bif v62 then(
some (.ret ((S_net_network.mk (S_api_Net.mk 0 []) [] [] []),50)))
else(
(zaF l2 v50).bind fun x14=>
(zgt l2 v50 x10.card).bind fun y16=>
zbl p0 n (w64 (v5 * x10.card)) (w64 (v50+1)) y16))
else(
some (.go (v5,l2))))
def zbM(x20:S_api_Node)(p0:S_api_Net)(v82:Int):Nat→Int→Int→(List Int)→Option (Out (List Int) (S_net_network×Int))
 | 0,_,_,_=>none
 | n+1,v10,v90,l3'=>(
bif (decide (v90<(x20.parents.length:Int)))then(
(zaF x20.parents v90).bind fun x23=>
((bif (decide (x23≤v10))then(
some true)
else(
bif (decide ((p0.nodes.length:Int)≤x23))then(
some true)
else(
some (x23 == v82))):Option Bool)).bind fun v109=>
bif v109 then(
some (.ret ((S_net_network.mk (S_api_Net.mk 0 []) [] [] []),50)))
else(
(zaF l3' v82).bind fun x28=>
(znn .u64 1 x23).bind fun q30=>
(zgt l3' v82 (orI .u64 x28 q30)).bind fun y32=>
zbM x20 p0 v82 n x23 (w64 (v90+1)) y32))
else(
some (.go l3')))
def zbk(p0:S_api_Net)(l2:(List Int)):Nat→Int→(List Int)→Option (Out (List Int) (S_net_network×Int))
 | 0,_,_=>none
 | n+1,v82,l3=>(
bif (decide (v82<(p0.nodes.length:Int)))then(
(zaF p0.nodes v82).bind fun x20=>
((zbM x20 p0 v82 ((x20.parents.length:Int) - 0+2:Int).toNat (-1) 0 l3:Option (Out (List Int) (S_net_network×Int)))).bind fun o=>match o with
| .go l3'=>(
(zaH (S_net_network.mk p0 l2 l3' []) x20).bind fun r34=>
bif r34 then(
zbk p0 l2 n (w64 (v82+1)) l3')
else(
some (.ret ((S_net_network.mk (S_api_Net.mk 0 []) [] [] []),50))))
| .ret r=>some (.ret r))
else(
some (.go l3)))
def zaO(p0:S_api_Net):Option (S_net_network×Int):=
((bif (decide (p0.grain<1))then(
some true)
else(
bif (decide (60<p0.grain))then(
some true)
else(
bif (decide ((p0.nodes.length:Int)<1))then(
some true)
else(
some (decide (8<(p0.nodes.length:Int)))))):Option Bool)).bind fun v34=>
bif v34 then(
some ((S_net_network.mk (S_api_Net.mk 0 []) [] [] []),50))
else(
(zfE 8 (p0.nodes.length:Int) 0).bind fun y5=>
(zfE 8 (p0.nodes.length:Int) 0).bind fun y7=>
((zbl p0 ((p0.nodes.length:Int) - 0+2:Int).toNat 1 0 y5:Option (Out (Int×(List Int)) (S_net_network×Int)))).bind fun o=>match o with
| .go (v5,l2)=>(
bif (decide (1024<v5))then(
some ((S_net_network.mk (S_api_Net.mk 0 []) [] [] []),50))
else(
((zbk p0 l2 ((p0.nodes.length:Int) - 0+2:Int).toNat 0 y7:Option (Out (List Int) (S_net_network×Int)))).bind fun o=>match o with
| .go l3=>(
(zbI l3).bind fun r37=>
bif r37.2 then(
some ((S_net_network.mk p0 l2 l3 r37.1),0))
else(
some ((S_net_network.mk (S_api_Net.mk 0 []) [] [] []),50)))
| .ret r=>some r))
| .ret r=>some r)
theorem zfH{p0:S_api_Net}{r:(S_net_network×Int)}(h:zaO p0=some r):Lx.FnA mC 54 [(.agg [(dI p0.grain),(fzE false zaa p0.nodes)])] (.tup [(.agg [(dI r.1.net.grain),(fzE false zaa r.1.net.nodes),(fzE false (eI .i64) r.1.cards),(fzE false (eI .u64) r.1.sets),(fzE false (eI .i64) r.1.order)]),(dI r.2)]):=by
 refine zwB (by conv=>lhs; cbv) ?_;unfold zaO at h;refine zab ?_;try simp only[rnA,Nat.reduceLT]
 obtain⟨o1,j1,h⟩:=bind_some h;obtain⟨T1,hT1⟩:=mkT fun a:Bool=>⟨140,[(1,(.ptr 0 0)),(2,(.ptr 1 0)),(34,(dB a))],[.cells [(dI p0.grain),(fzE false zaa p0.nodes)],.cells [(dI 0),zb3,zb3,zb3,zb3]]⟩
 refine EvL.jn T1 (fun a=>a=o1) ?_ ?_
 ·refine zab ?_;try simp only[rnA,Nat.reduceEqDiff,Nat.reduceLT,reduceCtorEq]
  cases c1:(decide (p0.grain<1))
  ·rw[c1,cond_false]at j1;try simp only[rnA,Nat.reduceEqDiff,Nat.reduceLT,reduceCtorEq]
   cases c2:(decide (60<p0.grain))
   ·rw[c2,cond_false]at j1;try simp only[rnA,Nat.reduceEqDiff,Nat.reduceLT,reduceCtorEq,zaj]
    cases c3:(decide ((p0.nodes.length:Int)<1))
    ·rw[c3,cond_false]at j1;try simp only[rnA,Nat.reduceEqDiff,Nat.reduceLT,reduceCtorEq,zaj]
     replace j1:=qab j1; subst j1;exact lfj hT1 rfl (wm0 [.k,.k] ⟨MB.cs ⟨qcK,qcK,qcK⟩,⟨MB.cs ⟨qcK,qcK,qcK,qcK,qcK,qcK⟩,qcK⟩⟩)
    rw[c3,cond_true]at j1;try simp only[rnA,Nat.reduceEqDiff,Nat.reduceLT,reduceCtorEq]
    replace j1:=qab j1; subst j1;exact lfj hT1 rfl (wm0 [.k,.k] ⟨MB.cs ⟨qcK,qcK,qcK⟩,⟨MB.cs ⟨qcK,qcK,qcK,qcK,qcK,qcK⟩,qcK⟩⟩)
   rw[c2,cond_true]at j1;try simp only[rnA,Nat.reduceEqDiff,Nat.reduceLT,reduceCtorEq]
   replace j1:=qab j1; subst j1;exact lfj hT1 rfl (wm0 [.k,.k] ⟨MB.cs ⟨qcK,qcK,qcK⟩,⟨MB.cs ⟨qcK,qcK,qcK,qcK,qcK,qcK⟩,qcK⟩⟩)
  rw[c1,cond_true]at j1;try simp only[rnA,Nat.reduceEqDiff,Nat.reduceLT,reduceCtorEq]
  replace j1:=qab j1; subst j1;exact lfj hT1 rfl (wm0 [.k,.k] ⟨MB.cs ⟨qcK,qcK,qcK⟩,⟨MB.cs ⟨qcK,qcK,qcK,qcK,qcK,qcK⟩,qcK⟩⟩)
 rintro v34 rfl;rw[congrFun hT1 v34];refine zab ?_;try simp only[rnA,Nat.reduceEqDiff]
 cases c4:v34
 ·rw[c4,cond_false]at h;obtain⟨y5,g6,h⟩:=bind_some h;obtain⟨y7,g8,h⟩:=bind_some h;try simp only[rnA,Nat.reduceEqDiff,Nat.reduceLT,Nat.reduceAdd,Nat.reduceLeDiff,zaj,(zbD g6).1.1,(zbD g6).1.2,qca,(show List.replicate (Int.toNat (p0.nodes.length:Int)) [(dI 0)]=y5.map ((eI .i64).c true)from zdS g6 ((eI .i64).c true)),(show List.replicate (Int.toNat (p0.nodes.length:Int)) [(dU 0)]=y7.map ((eI .u64).c true)from zdS g8 ((eI .u64).c true))]
  obtain⟨o5,j5,h⟩:=bind_some h;obtain⟨T5,hT5⟩:=mkT fun a:(Int×(List Int))=>⟨140,[(2,(.ptr 1 0)),(4,(.ptr 4 0)),(5,(dI a.1))],[.gone,.cells [(dI 0),zb3,zb3,zb3,zb3],.els 1 (a.2.map ((eI .i64).c true)),.els 1 (y7.map ((eI .u64).c true)),.cells [(dI p0.grain),(fzE false zaa p0.nodes),(.sl 2 0 1 (Int.toNat (p0.nodes.length:Int)) (some (Int.toNat (p0.nodes.length:Int))) (Int.toNat (p0.nodes.length:Int))),(.sl 3 0 1 (Int.toNat (p0.nodes.length:Int)) (some (Int.toNat (p0.nodes.length:Int))) (Int.toNat (p0.nodes.length:Int))),zb3]]⟩
  refine EvL.jn T5 (fun a=>o5=.go a∧a.2.length=(Int.toNat (p0.nodes.length:Int))) ?_ ?_
  ·refine zab ?_;simp only[rnA];obtain⟨T8,hT8⟩:=mkT fun a:(Int×Int×(List Int))=>⟨140,[(2,(.ptr 1 0)),(4,(.ptr 4 0)),(5,(dI a.1)),(48,(fzE false zaa p0.nodes)),(49,(dI (p0.nodes.length:Int))),(50,(dI a.2.1))],[.gone,.cells [(dI 0),zb3,zb3,zb3,zb3],.els 1 (a.2.2.map ((eI .i64).c true)),.els 1 (y7.map ((eI .u64).c true)),.cells [(dI p0.grain),(fzE false zaa p0.nodes),(.sl 2 0 1 (Int.toNat (p0.nodes.length:Int)) (some (Int.toNat (p0.nodes.length:Int))) (Int.toNat (p0.nodes.length:Int))),(.sl 3 0 1 (Int.toNat (p0.nodes.length:Int)) (some (Int.toNat (p0.nodes.length:Int))) (Int.toNat (p0.nodes.length:Int))),zb3]]⟩
   refine EvL.rounds (α:=(Int×Int×(List Int))) T8 (fun n a=>zbl p0 n a.1 a.2.1 a.2.2=some o5∧a.2.2.length=(Int.toNat (p0.nodes.length:Int))) ((p0.nodes.length:Int) - 0+2:Int).toNat (1,0,y5) (by rw[hT8]; exact wm0 [.d,.k,.k,.k,.k] ⟨rfl,⟨MB.cs ⟨qcK,qcK,qcK,qcK,qcK,qcK⟩,⟨MB.es (eI .i64) true y5,⟨MB.es (eI .u64) true y7,⟨MB.cs ⟨qcK,qcK,rfl,rfl,qcK,qcK⟩,qcK⟩⟩⟩⟩⟩) ⟨j5,zdi g6⟩ (fun _ h=>nomatch (show(none:Option (Out (Int×(List Int)) (S_net_network×Int)))=some o5 from h.1)) ?_;rintro n ⟨v5,v50,l2⟩ ⟨j5,el2⟩;simp only[zbl]at j5;rw[congrFun hT8 (v5,v50,l2)];refine zab ?_;try simp only[rnA,Nat.reduceEqDiff,Nat.reduceLT]
   cases c9:(decide (v50<(p0.nodes.length:Int)))
   ·rw[c9,cond_false]at j5;try simp only[rnA]
    replace j5:=qab j5; subst j5;exact⟨_,⟨rfl,el2⟩,by rw[hT5]; exact wm0 [.d,.k,.k,.k,.k] ⟨rfl,⟨MB.cs ⟨qcK,qcK,qcK,qcK,qcK,qcK⟩,⟨MB.es (eI .i64) true l2,⟨MB.es (eI .u64) true y7,⟨MB.cs ⟨qcK,qcK,rfl,rfl,qcK,qcK⟩,qcK⟩⟩⟩⟩⟩⟩
   rw[c9,cond_true]at j5;obtain⟨x10,g11,j5⟩:=bind_some j5;try simp only[rnA,Nat.reduceEqDiff,Nat.reduceLT,Nat.reduceAdd,Nat.reduceLeDiff,zac,zai (n:=3) (e:=zaa) rfl g11]
   obtain⟨o9,j9,j5⟩:=bind_some j5;obtain⟨T9,hT9⟩:=mkT fun a:Bool=>⟨140,[(2,(.ptr 1 0)),(4,(.ptr 4 0)),(5,(dI v5)),(6,(dI v50)),(7,(.ptr 5 0)),(48,(fzE false zaa p0.nodes)),(49,(dI (p0.nodes.length:Int))),(50,(dI v50)),(62,(dB a))],[.gone,.cells [(dI 0),zb3,zb3,zb3,zb3],.els 1 (l2.map ((eI .i64).c true)),.els 1 (y7.map ((eI .u64).c true)),.cells [(dI p0.grain),(fzE false zaa p0.nodes),(.sl 2 0 1 (Int.toNat (p0.nodes.length:Int)) (some (Int.toNat (p0.nodes.length:Int))) (Int.toNat (p0.nodes.length:Int))),(.sl 3 0 1 (Int.toNat (p0.nodes.length:Int)) (some (Int.toNat (p0.nodes.length:Int))) (Int.toNat (p0.nodes.length:Int))),zb3],.cells [(dI x10.card),(fzE false (eI .i64) x10.parents),(fzE false (eL (eI .i64)) x10.rows)]]⟩
   refine EvL.jn T9 (fun a=>a=o9) ?_ ?_
   ·refine zab ?_;try simp only[rnA,Nat.reduceEqDiff,Nat.reduceLT]
    cases c12:(decide (x10.card<1))
    ·rw[c12,cond_false]at j9;try simp only[rnA,Nat.reduceEqDiff,Nat.reduceLT]
     replace j9:=qab j9; subst j9;exact lfj hT9 rfl (wm0 [.d,.k,.k,.k,.k,.k] ⟨rfl,⟨MB.cs ⟨qcK,qcK,qcK,qcK,qcK,qcK⟩,⟨MB.es (eI .i64) true l2,⟨MB.es (eI .u64) true y7,⟨MB.cs ⟨qcK,qcK,rfl,rfl,qcK,qcK⟩,⟨MB.cs ⟨qcK,qcK,qcK,qcK⟩,qcK⟩⟩⟩⟩⟩⟩)
    rw[c12,cond_true]at j9;try simp only[rnA,Nat.reduceEqDiff,Nat.reduceLT]
    replace j9:=qab j9; subst j9;exact lfj hT9 rfl (wm0 [.d,.k,.k,.k,.k,.k] ⟨rfl,⟨MB.cs ⟨qcK,qcK,qcK,qcK,qcK,qcK⟩,⟨MB.es (eI .i64) true l2,⟨MB.es (eI .u64) true y7,⟨MB.cs ⟨qcK,qcK,rfl,rfl,qcK,qcK⟩,⟨MB.cs ⟨qcK,qcK,qcK,qcK⟩,qcK⟩⟩⟩⟩⟩⟩)
   rintro v62 rfl;rw[congrFun hT9 v62];refine zab ?_;try simp only[rnA,Nat.reduceEqDiff]
   cases c13:v62
   ·rw[c13,cond_false]at j5;obtain⟨x14,g15,j5⟩:=bind_some j5;obtain⟨y16,g17,j5⟩:=bind_some j5;try simp only[rnA,Nat.reduceEqDiff,Nat.reduceLT,Nat.reduceLeDiff,el2,zbs g15,(show v50<(((Int.toNat (p0.nodes.length:Int)):Nat):Int)from el2 ▸ zbN g15),zbd g15 ((eI .i64).c true),(show(l2.map ((eI .i64).c true)).set v50.toNat [(dI x10.card)]=y16.map ((eI .i64).c true)from zcy g17 ((eI .i64).c true))]
    exact⟨((w64 (v5 * x10.card)),(w64 (v50+1)),y16),⟨j5,(zce g17).trans el2⟩,by rw[hT8]; exact wm0 [.d,.k,.k,.k,.k] ⟨rfl,⟨MB.cs ⟨qcK,qcK,qcK,qcK,qcK,qcK⟩,⟨MB.es (eI .i64) true y16,⟨MB.es (eI .u64) true y7,⟨MB.cs ⟨qcK,qcK,rfl,rfl,qcK,qcK⟩,qcK⟩⟩⟩⟩⟩⟩
   rw[c13,cond_true]at j5;try simp only[rnA,Nat.reduceEqDiff,Nat.reduceLT,Nat.reduceAdd,Nat.reduceLeDiff]
   replace j5:=qab j5; subst j5;dsimp only at h;replace h:=qab h; subst h;exact zkJ.ret rfl (Snp.zjM (.cons (.zcp (.cons (.lit _) (.cons (zaL zaa) (.cons (zaL (eI .i64)) (.cons (zaL (eI .u64)) (.cons (zaL (eI .i64)) .nil)))))) (.cons (.lit _) .nil)))
  rintro⟨v5,l2⟩ ⟨rfl,el2⟩;dsimp only at h;rw[congrFun hT5 (v5,l2)];refine zab ?_;try simp only[rnA,Nat.reduceEqDiff,Nat.reduceLT]
  cases c18:(decide (1024<v5))
  ·rw[c18,cond_false]at h;try simp only[rnA,Nat.reduceEqDiff,Nat.reduceLT,zaj]
   obtain⟨o34,j34,h⟩:=bind_some h;obtain⟨T34,hT34⟩:=mkT fun a:(List Int)=>⟨140,[(2,(.ptr 1 0)),(4,(.ptr 4 0))],[.gone,.cells [(dI 0),zb3,zb3,zb3,zb3],.els 1 (l2.map ((eI .i64).c true)),.els 1 (a.map ((eI .u64).c true)),.cells [(dI p0.grain),(fzE false zaa p0.nodes),(.sl 2 0 1 (Int.toNat (p0.nodes.length:Int)) (some (Int.toNat (p0.nodes.length:Int))) (Int.toNat (p0.nodes.length:Int))),(.sl 3 0 1 (Int.toNat (p0.nodes.length:Int)) (some (Int.toNat (p0.nodes.length:Int))) (Int.toNat (p0.nodes.length:Int))),zb3]]⟩
   refine EvL.jn T34 (fun a=>o34=.go a∧a.length=(Int.toNat (p0.nodes.length:Int))) ?_ ?_
   ·refine zab ?_;simp only[rnA];obtain⟨T51,hT51⟩:=mkT fun a:(Int×(List Int))=>⟨140,[(2,(.ptr 1 0)),(4,(.ptr 4 0)),(80,(fzE false zaa p0.nodes)),(81,(dI (p0.nodes.length:Int))),(82,(dI a.1))],[.gone,.cells [(dI 0),zb3,zb3,zb3,zb3],.els 1 (l2.map ((eI .i64).c true)),.els 1 (a.2.map ((eI .u64).c true)),.cells [(dI p0.grain),(fzE false zaa p0.nodes),(.sl 2 0 1 (Int.toNat (p0.nodes.length:Int)) (some (Int.toNat (p0.nodes.length:Int))) (Int.toNat (p0.nodes.length:Int))),(.sl 3 0 1 (Int.toNat (p0.nodes.length:Int)) (some (Int.toNat (p0.nodes.length:Int))) (Int.toNat (p0.nodes.length:Int))),zb3]]⟩
    refine EvL.rounds (α:=(Int×(List Int))) T51 (fun n a=>zbk p0 l2 n a.1 a.2=some o34∧a.2.length=(Int.toNat (p0.nodes.length:Int))) ((p0.nodes.length:Int) - 0+2:Int).toNat (0,y7) (by rw[hT51]; exact wm0 [.d,.k,.k,.k,.k] ⟨rfl,⟨MB.cs ⟨qcK,qcK,qcK,qcK,qcK,qcK⟩,⟨MB.es (eI .i64) true l2,⟨MB.es (eI .u64) true y7,⟨MB.cs ⟨qcK,qcK,rfl,rfl,qcK,qcK⟩,qcK⟩⟩⟩⟩⟩) ⟨j34,zdi g8⟩ (fun _ h=>nomatch (show(none:Option (Out (List Int) (S_net_network×Int)))=some o34 from h.1)) ?_;rintro n ⟨v82,l3⟩ ⟨j34,el3⟩;simp only[zbk]at j34;rw[congrFun hT51 (v82,l3)];refine zab ?_;try simp only[rnA,Nat.reduceEqDiff,Nat.reduceLT]
    cases c19:(decide (v82<(p0.nodes.length:Int)))
    ·rw[c19,cond_false]at j34;try simp only[rnA]
     replace j34:=qab j34; subst j34;exact⟨_,⟨rfl,el3⟩,by rw[hT34]; exact wm0 [.d,.k,.k,.k,.k] ⟨rfl,⟨MB.cs ⟨qcK,qcK,qcK,qcK,qcK,qcK⟩,⟨MB.es (eI .i64) true l2,⟨MB.es (eI .u64) true l3,⟨MB.cs ⟨qcK,qcK,rfl,rfl,qcK,qcK⟩,qcK⟩⟩⟩⟩⟩⟩
    rw[c19,cond_true]at j34;obtain⟨x20,g21,j34⟩:=bind_some j34;try simp only[rnA,Nat.reduceEqDiff,Nat.reduceLT,Nat.reduceAdd,Nat.reduceLeDiff,zac,zai (n:=3) (e:=zaa) rfl g21,zaj]
    obtain⟨o55,j55,j34⟩:=bind_some j34;obtain⟨T55,hT55⟩:=mkT fun a:(List Int)=>⟨140,[(2,(.ptr 1 0)),(4,(.ptr 4 0)),(9,(.ptr 5 0)),(80,(fzE false zaa p0.nodes)),(81,(dI (p0.nodes.length:Int))),(82,(dI v82))],[.gone,.cells [(dI 0),zb3,zb3,zb3,zb3],.els 1 (l2.map ((eI .i64).c true)),.els 1 (a.map ((eI .u64).c true)),.cells [(dI p0.grain),(fzE false zaa p0.nodes),(.sl 2 0 1 (Int.toNat (p0.nodes.length:Int)) (some (Int.toNat (p0.nodes.length:Int))) (Int.toNat (p0.nodes.length:Int))),(.sl 3 0 1 (Int.toNat (p0.nodes.length:Int)) (some (Int.toNat (p0.nodes.length:Int))) (Int.toNat (p0.nodes.length:Int))),zb3],.cells [(dI x20.card),(fzE false (eI .i64) x20.parents),(fzE false (eL (eI .i64)) x20.rows)]]⟩
    refine EvL.jn T55 (fun a=>o55=.go a∧a.length=(Int.toNat (p0.nodes.length:Int))) ?_ ?_
    ·refine zab ?_;simp only[rnA];obtain⟨T58,hT58⟩:=mkT fun a:(Int×Int×(List Int))=>⟨140,[(2,(.ptr 1 0)),(4,(.ptr 4 0)),(8,(dI v82)),(9,(.ptr 5 0)),(10,(dI a.1)),(80,(fzE false zaa p0.nodes)),(81,(dI (p0.nodes.length:Int))),(82,(dI v82)),(88,(fzE false (eI .i64) x20.parents)),(89,(dI (x20.parents.length:Int))),(90,(dI a.2.1))],[.gone,.cells [(dI 0),zb3,zb3,zb3,zb3],.els 1 (l2.map ((eI .i64).c true)),.els 1 (a.2.2.map ((eI .u64).c true)),.cells [(dI p0.grain),(fzE false zaa p0.nodes),(.sl 2 0 1 (Int.toNat (p0.nodes.length:Int)) (some (Int.toNat (p0.nodes.length:Int))) (Int.toNat (p0.nodes.length:Int))),(.sl 3 0 1 (Int.toNat (p0.nodes.length:Int)) (some (Int.toNat (p0.nodes.length:Int))) (Int.toNat (p0.nodes.length:Int))),zb3],.cells [(dI x20.card),(fzE false (eI .i64) x20.parents),(fzE false (eL (eI .i64)) x20.rows)]]⟩
     refine EvL.rounds (α:=(Int×Int×(List Int))) T58 (fun n a=>zbM x20 p0 v82 n a.1 a.2.1 a.2.2=some o55∧a.2.2.length=(Int.toNat (p0.nodes.length:Int))) ((x20.parents.length:Int) - 0+2:Int).toNat ((-1),0,l3) (by rw[hT58]; exact wm0 [.d,.k,.k,.k,.k,.k] ⟨rfl,⟨MB.cs ⟨qcK,qcK,qcK,qcK,qcK,qcK⟩,⟨MB.es (eI .i64) true l2,⟨MB.es (eI .u64) true l3,⟨MB.cs ⟨qcK,qcK,rfl,rfl,qcK,qcK⟩,⟨MB.cs ⟨qcK,qcK,qcK,qcK⟩,qcK⟩⟩⟩⟩⟩⟩) ⟨j55,el3⟩ (fun _ h=>nomatch (show(none:Option (Out (List Int) (S_net_network×Int)))=some o55 from h.1)) ?_;rintro n ⟨v10,v90,l3'⟩ ⟨j55,el3'⟩;simp only[zbM]at j55;rw[congrFun hT58 (v10,v90,l3')];refine zab ?_;try simp only[rnA,Nat.reduceEqDiff,Nat.reduceLT]
     cases c22:(decide (v90<(x20.parents.length:Int)))
     ·rw[c22,cond_false]at j55;try simp only[rnA,Nat.reduceEqDiff,Nat.reduceLT]
      replace j55:=qab j55; subst j55;exact⟨_,⟨rfl,el3'⟩,by rw[hT55]; exact wm0 [.d,.k,.k,.k,.k,.k] ⟨rfl,⟨MB.cs ⟨qcK,qcK,qcK,qcK,qcK,qcK⟩,⟨MB.es (eI .i64) true l2,⟨MB.es (eI .u64) true l3',⟨MB.cs ⟨qcK,qcK,rfl,rfl,qcK,qcK⟩,⟨MB.cs ⟨qcK,qcK,qcK,qcK⟩,qcK⟩⟩⟩⟩⟩⟩⟩
     rw[c22,cond_true]at j55;obtain⟨x23,g24,j55⟩:=bind_some j55;try simp only[rnA,Nat.reduceEqDiff,Nat.reduceLT,zai (n:=1) (e:=(eI .i64)) rfl g24]
     obtain⟨o59,j59,j55⟩:=bind_some j55;obtain⟨T59,hT59⟩:=mkT fun a:Bool=>⟨140,[(2,(.ptr 1 0)),(4,(.ptr 4 0)),(8,(dI v82)),(9,(.ptr 5 0)),(12,(dI x23)),(80,(fzE false zaa p0.nodes)),(81,(dI (p0.nodes.length:Int))),(82,(dI v82)),(88,(fzE false (eI .i64) x20.parents)),(89,(dI (x20.parents.length:Int))),(90,(dI v90)),(109,(dB a))],[.gone,.cells [(dI 0),zb3,zb3,zb3,zb3],.els 1 (l2.map ((eI .i64).c true)),.els 1 (l3'.map ((eI .u64).c true)),.cells [(dI p0.grain),(fzE false zaa p0.nodes),(.sl 2 0 1 (Int.toNat (p0.nodes.length:Int)) (some (Int.toNat (p0.nodes.length:Int))) (Int.toNat (p0.nodes.length:Int))),(.sl 3 0 1 (Int.toNat (p0.nodes.length:Int)) (some (Int.toNat (p0.nodes.length:Int))) (Int.toNat (p0.nodes.length:Int))),zb3],.cells [(dI x20.card),(fzE false (eI .i64) x20.parents),(fzE false (eL (eI .i64)) x20.rows)]]⟩
     refine EvL.jn T59 (fun a=>a=o59) ?_ ?_
     ·refine zab ?_;try simp only[rnA,Nat.reduceEqDiff,Nat.reduceLT]
      cases c25:(decide (x23≤v10))
      ·rw[c25,cond_false]at j59;try simp only[rnA,Nat.reduceEqDiff,Nat.reduceLT,zaj]
       cases c26:(decide ((p0.nodes.length:Int)≤x23))
       ·rw[c26,cond_false]at j59;try simp only[rnA,Nat.reduceEqDiff,Nat.reduceLT]
        replace j59:=qab j59; subst j59;exact lfj hT59 rfl (wm0 [.d,.k,.k,.k,.k,.k] ⟨rfl,⟨MB.cs ⟨qcK,qcK,qcK,qcK,qcK,qcK⟩,⟨MB.es (eI .i64) true l2,⟨MB.es (eI .u64) true l3',⟨MB.cs ⟨qcK,qcK,rfl,rfl,qcK,qcK⟩,⟨MB.cs ⟨qcK,qcK,qcK,qcK⟩,qcK⟩⟩⟩⟩⟩⟩)
       rw[c26,cond_true]at j59;try simp only[rnA,Nat.reduceEqDiff,Nat.reduceLT]
       replace j59:=qab j59; subst j59;exact lfj hT59 rfl (wm0 [.d,.k,.k,.k,.k,.k] ⟨rfl,⟨MB.cs ⟨qcK,qcK,qcK,qcK,qcK,qcK⟩,⟨MB.es (eI .i64) true l2,⟨MB.es (eI .u64) true l3',⟨MB.cs ⟨qcK,qcK,rfl,rfl,qcK,qcK⟩,⟨MB.cs ⟨qcK,qcK,qcK,qcK⟩,qcK⟩⟩⟩⟩⟩⟩)
      rw[c25,cond_true]at j59;try simp only[rnA,Nat.reduceEqDiff,Nat.reduceLT]
      replace j59:=qab j59; subst j59;exact lfj hT59 rfl (wm0 [.d,.k,.k,.k,.k,.k] ⟨rfl,⟨MB.cs ⟨qcK,qcK,qcK,qcK,qcK,qcK⟩,⟨MB.es (eI .i64) true l2,⟨MB.es (eI .u64) true l3',⟨MB.cs ⟨qcK,qcK,rfl,rfl,qcK,qcK⟩,⟨MB.cs ⟨qcK,qcK,qcK,qcK⟩,qcK⟩⟩⟩⟩⟩⟩)
     rintro v109 rfl;rw[congrFun hT59 v109];refine zab ?_;try simp only[rnA,Nat.reduceEqDiff]
     cases c27:v109
     ·rw[c27,cond_false]at j55;obtain⟨x28,g29,j55⟩:=bind_some j55;obtain⟨q30,g31,j55⟩:=bind_some j55;obtain⟨y32,g33,j55⟩:=bind_some j55;try simp only[rnA,Nat.reduceEqDiff,Nat.reduceLT,Nat.reduceLeDiff,el3',zbs g29,(show v82<(((Int.toNat (p0.nodes.length:Int)):Nat):Int)from el3' ▸ zbN g29),zbd g29 ((eI .u64).c true),(zd2 g31).1,(zd2 g31).2,(show(l3'.map ((eI .u64).c true)).set v82.toNat [(dU (orI .u64 x28 q30))]=y32.map ((eI .u64).c true)from zcy g33 ((eI .u64).c true))]
      exact⟨(x23,(w64 (v90+1)),y32),⟨j55,(zce g33).trans el3'⟩,by rw[hT58]; exact wm0 [.d,.k,.k,.k,.k,.k] ⟨rfl,⟨MB.cs ⟨qcK,qcK,qcK,qcK,qcK,qcK⟩,⟨MB.es (eI .i64) true l2,⟨MB.es (eI .u64) true y32,⟨MB.cs ⟨qcK,qcK,rfl,rfl,qcK,qcK⟩,⟨MB.cs ⟨qcK,qcK,qcK,qcK⟩,qcK⟩⟩⟩⟩⟩⟩⟩
     rw[c27,cond_true]at j55;try simp only[rnA,Nat.reduceEqDiff,Nat.reduceLT,Nat.reduceAdd,Nat.reduceLeDiff]
     replace j55:=qab j55; subst j55;dsimp only at j34;replace j34:=qab j34; subst j34;dsimp only at h;replace h:=qab h; subst h;exact zkJ.ret rfl (Snp.zjM (.cons (.zcp (.cons (.lit _) (.cons (zaL zaa) (.cons (zaL (eI .i64)) (.cons (zaL (eI .u64)) (.cons (zaL (eI .i64)) .nil)))))) (.cons (.lit _) .nil)))
    rintro l3' ⟨rfl,el3'⟩;dsimp only at j34;rw[congrFun hT55 l3'];refine zab ?_;obtain⟨r34,g35,j34⟩:=bind_some j34;try simp only[rnA,Nat.reduceEqDiff,Nat.reduceLT,Nat.reduceAdd,Nat.reduceLeDiff]
    refine EvL.fn (zfa g35) rfl rfl (.cons (.zcp (.cons (.lit _) (.cons (zao _ _ (fun h=>nomatch h)) (.cons (zal (e:=(eI .i64)) (t:=true) rfl (.inl rfl) (el2).symm (el2).symm (fun k h=>by cases h; exact qal _) (fun h=>nomatch h)) (.cons (zal (e:=(eI .u64)) (t:=true) rfl (.inl rfl) (el3').symm (el3').symm (fun k h=>by cases h; exact qal _) (fun h=>nomatch h)) (.cons (zaL (eI .i64)) .nil)))))) (.cons (.zcp (.cons (.lit _) (.cons (zao _ _ (fun h=>nomatch h)) (.cons (zao _ _ (fun h=>nomatch h)) .nil)))) .nil)) ?_;try simp only[rnA,Nat.reduceEqDiff,Nat.reduceLT]
    cases c36:r34
    ·rw[c36,cond_false]at j34;try simp only[rnA,Nat.reduceEqDiff,Nat.reduceLT,Nat.reduceAdd,Nat.reduceLeDiff]
     replace j34:=qab j34; subst j34;dsimp only at h;replace h:=qab h; subst h;exact zkJ.ret rfl (Snp.zjM (.cons (.zcp (.cons (.lit _) (.cons (zaL zaa) (.cons (zaL (eI .i64)) (.cons (zaL (eI .u64)) (.cons (zaL (eI .i64)) .nil)))))) (.cons (.lit _) .nil)))
    rw[c36,cond_true]at j34;try simp only[rnA,Nat.reduceEqDiff,Nat.reduceLT]
    exact⟨((w64 (v82+1)),l3'),⟨j34,el3'⟩,by rw[hT51]; exact wm0 [.d,.k,.k,.k,.k] ⟨rfl,⟨MB.cs ⟨qcK,qcK,qcK,qcK,qcK,qcK⟩,⟨MB.es (eI .i64) true l2,⟨MB.es (eI .u64) true l3',⟨MB.cs ⟨qcK,qcK,rfl,rfl,qcK,qcK⟩,qcK⟩⟩⟩⟩⟩⟩
   rintro l3 ⟨rfl,el3⟩;dsimp only at h;rw[congrFun hT34 l3];refine zab ?_;obtain⟨r37,g38,h⟩:=bind_some h;try simp only[rnA,Nat.reduceEqDiff,Nat.reduceLT]
   refine EvL.fn (zje g38) rfl rfl (.cons (zal (e:=(eI .u64)) (t:=true) rfl (.inl rfl) (el3).symm (el3).symm (fun k h=>by cases h; exact qal _) (fun h=>nomatch h)) .nil) ?_;try simp only[rnA,Nat.reduceEqDiff,Nat.reduceLT]
   cases c39:r37.2
   ·rw[c39,cond_false]at h;try simp only[rnA,Nat.reduceEqDiff,Nat.reduceLT,Nat.reduceAdd,Nat.reduceLeDiff]
    replace h:=qab h; subst h;exact zkJ.ret rfl (Snp.zjM (.cons (.zcp (.cons (.lit _) (.cons (zaL zaa) (.cons (zaL (eI .i64)) (.cons (zaL (eI .u64)) (.cons (zaL (eI .i64)) .nil)))))) (.cons (.lit _) .nil)))
   rw[c39,cond_true]at h;try simp only[rnA,Nat.reduceEqDiff,Nat.reduceLT,Nat.reduceAdd,Nat.reduceLeDiff]
   replace h:=qab h; subst h;exact zkJ.ret rfl (Snp.zjM (.cons (.zcp (.cons (.lit _) (.cons (zao _ _ (fun h=>nomatch h)) (.cons (zal (e:=(eI .i64)) (t:=true) rfl (.inl rfl) (el2).symm (el2).symm (fun k h=>by cases h; exact qal _) (fun h=>nomatch h)) (.cons (zal (e:=(eI .u64)) (t:=true) rfl (.inl rfl) (el3).symm (el3).symm (fun k h=>by cases h; exact qal _) (fun h=>nomatch h)) (.cons (zao _ _ (fun h=>nomatch h)) .nil)))))) (.cons (.lit _) .nil)))
  rw[c18,cond_true]at h;try simp only[rnA,Nat.reduceEqDiff,Nat.reduceLT,Nat.reduceAdd,Nat.reduceLeDiff]
  replace h:=qab h; subst h;exact zkJ.ret rfl (Snp.zjM (.cons (.zcp (.cons (.lit _) (.cons (zaL zaa) (.cons (zaL (eI .i64)) (.cons (zaL (eI .u64)) (.cons (zaL (eI .i64)) .nil)))))) (.cons (.lit _) .nil)))
 rw[c4,cond_true]at h;try simp only[rnA,Nat.reduceEqDiff,Nat.reduceLT,Nat.reduceAdd,Nat.reduceLeDiff]
 replace h:=qab h; subst h;exact zkJ.ret rfl (Snp.zjM (.cons (.zcp (.cons (.lit _) (.cons (zaL zaa) (.cons (zaL (eI .i64)) (.cons (zaL (eI .u64)) (.cons (zaL (eI .i64)) .nil)))))) (.cons (.lit _) .nil)))
def zbA(p0:(List Int)):Nat→Int→Int→Option (Int×Bool)
 | 0,_,_=>none
 | n+1,v2,v11=>(
bif (decide (v11<(p0.length:Int)))then(
(zaF p0 v11).bind fun x3=>
((bif (decide (x3<1))then(
some true)
else(
bif (decide (8<x3))then(
some true)
else(
some (decide (4096<(w64 (v2 * x3)))))):Option Bool)).bind fun v15=>
bif v15 then(
some (0,false))
else(
zbA p0 n (w64 (v2 * x3)) (w64 (v11+1))))
else(
some (v2,true)))
def zcN(p0:(List Int)):Option (Int×Bool):=
bif (decide (12<(p0.length:Int)))then(
some (0,false))
else(
((zbA p0 ((p0.length:Int) - 0+2:Int).toNat 1 0:Option ((Int×Bool)))).bind fun o=>match o with
|(v2,v3)=>(
some (v2,v3)))
theorem zh9{p0:(List Int)}{r:(Int×Bool)}(h:zcN p0=some r):Lx.Fn mC 75 [(fzE false (eI .i64) p0)] (.tup [(dI r.1),(dB r.2)]):=by
 refine fnO (by conv=>lhs; cbv) ?_;unfold zcN at h;refine zab ?_;try simp only[rnA,Nat.reduceLT]
 refine EvL.scope (zab ?_);try simp only[rnA,Nat.reduceEqDiff,Nat.reduceLT,reduceCtorEq,zaj]
 cases c1:(decide (12<(p0.length:Int)))
 ·rw[c1,cond_false]at h;try simp only[rnA,Nat.reduceEqDiff,Nat.reduceLT,reduceCtorEq,zaj]
  obtain⟨o12,j12,h⟩:=bind_some h;obtain⟨T12,hT12⟩:=mkT fun a:(Int×Bool)=>⟨30,[(2,(dI a.1)),(3,(dB a.2))],[]⟩
  refine EvL.jn T12 (fun a=>a=o12) ?_ ?_
  ·refine zab ?_;simp only[rnA];obtain⟨T15,hT15⟩:=mkT fun a:(Int×Int)=>⟨30,[(2,(dI a.1)),(3,(dB true)),(9,(fzE false (eI .i64) p0)),(10,(dI (p0.length:Int))),(11,(dI a.2))],[]⟩
   refine EvL.rounds (α:=(Int×Int)) T15 (fun n a=>zbA p0 n a.1 a.2=some o12) ((p0.length:Int) - 0+2:Int).toNat (1,0) (by rw[hT15]; exact wm0 [] (by exact trivial)) j12 (fun _ h=>nomatch (show(none:Option (Int×Bool))=some o12 from h)) ?_;rintro n ⟨v2,v11⟩ j12;simp only[zbA]at j12;rw[congrFun hT15 (v2,v11)];refine zab ?_;try simp only[rnA,Nat.reduceEqDiff,Nat.reduceLT]
   cases c2:(decide (v11<(p0.length:Int)))
   ·rw[c2,cond_false]at j12;try simp only[rnA]
    replace j12:=qab j12; subst j12;exact lfj hT12 rfl (wm0 [] (by exact trivial))
   rw[c2,cond_true]at j12;obtain⟨x3,g4,j12⟩:=bind_some j12;try simp only[rnA,Nat.reduceEqDiff,Nat.reduceLT,zai (n:=1) (e:=(eI .i64)) rfl g4]
   obtain⟨o16,j16,j12⟩:=bind_some j12;obtain⟨T16,hT16⟩:=mkT fun a:Bool=>⟨30,[(2,(dI v2)),(3,(dB true)),(5,(dI x3)),(9,(fzE false (eI .i64) p0)),(10,(dI (p0.length:Int))),(11,(dI v11)),(15,(dB a))],[]⟩
   refine EvL.jn T16 (fun a=>a=o16) ?_ ?_
   ·refine zab ?_;try simp only[rnA,Nat.reduceEqDiff]
    cases c5:(decide (x3<1))
    ·rw[c5,cond_false]at j16;try simp only[rnA,Nat.reduceEqDiff,Nat.reduceLT]
     cases c6:(decide (8<x3))
     ·rw[c6,cond_false]at j16;try simp only[rnA,Nat.reduceEqDiff,Nat.reduceLT]
      replace j16:=qab j16; subst j16;exact lfj hT16 rfl (wm0 [] (by exact trivial))
     rw[c6,cond_true]at j16;try simp only[rnA]
     replace j16:=qab j16; subst j16;exact lfj hT16 rfl (wm0 [] (by exact trivial))
    rw[c5,cond_true]at j16;try simp only[rnA]
    replace j16:=qab j16; subst j16;exact lfj hT16 rfl (wm0 [] (by exact trivial))
   rintro v15 rfl;rw[congrFun hT16 v15];refine zab ?_;try simp only[rnA,Nat.reduceEqDiff]
   cases c7:v15
   ·rw[c7,cond_false]at j12;try simp only[rnA,Nat.reduceEqDiff,Nat.reduceLT]
    exact⟨((w64 (v2 * x3)),(w64 (v11+1))),j12,by rw[hT15]; exact wm0 [] (by exact trivial)⟩
   rw[c7,cond_true]at j12;try simp only[rnA,Nat.reduceEqDiff,Nat.reduceLT,reduceCtorEq]
   replace j12:=qab j12; subst j12;exact lfj hT12 rfl (wm0 [] (by exact trivial))
  rintro⟨v2,v3⟩ rfl;dsimp only at h;rw[congrFun hT12 (v2,v3)];refine zab ?_;try simp only[rnA,Nat.reduceEqDiff,Nat.reduceLT]
  replace h:=qab h; subst h;exact zbe.ret rfl (Snp.zjM (.cons (.lit _) (.cons (.lit _) .nil)))
 rw[c1,cond_true]at h;try simp only[rnA,Nat.reduceLT]
 replace h:=qab h; subst h;exact zbe.ret rfl (Snp.zjM (.cons (.lit _) (.cons (.lit _) .nil)))
def zaz(p0:Int):List (Int×Int)→(List Int)→Option (List Int)
 | [],l0=>some l0
 | y5 :: ys,l0=>(
(zaF l0 y5.1).bind fun x6=>
(zgt l0 y5.1 y5.2).bind fun y8=>
zaz p0 ys y8)
def zbQ(p0:Int)(p1:((List Int)×Int×Int)):Option (List Int):=
(zfE 8 p0 0).bind fun y1=>
(ztt p1.1 p1.2.1 p1.2.2).bind fun u3=>
((zaz p0 u3 y1:Option (List Int))).bind fun l0=>
some l0
theorem zft{p0:Int}{p1:((List Int)×Int×Int)}{r:(List Int)}(h:zbQ p0 p1=some r):Lx.Fn mC 76 [(dI p0),(.clo 85 [] [(.fptr false ((eI .i64).c false p1.2.2)),(.fptr false ((eI .i64).c false p1.2.1)),(.fptr false ((eL (eI .i64)).c false p1.1))])] (fzE true (eI .i64) r):=by
 refine fnO (by conv=>lhs; cbv) ?_;unfold zbQ at h;refine zab ?_;obtain⟨y1,g2,h⟩:=bind_some h;try simp only[rnA,Nat.reduceEqDiff,Nat.reduceLT,Nat.reduceAdd,Nat.reduceLeDiff,reduceCtorEq,(zbD g2).1.1,(zbD g2).1.2,qca,(show List.replicate (Int.toNat p0) [(dI 0)]=y1.map ((eI .i64).c true)from zdS g2 ((eI .i64).c true))]
 obtain⟨u3,g4,h⟩:=bind_some h;obtain⟨o1,j1,h⟩:=bind_some h;obtain⟨T1,hT1⟩:∃ T:(List Int)→List LB,T=(fun a=>[.els 1 (a.map ((eI .i64).c true)),.cells [(.sl 0 0 1 (Int.toNat p0) (some (Int.toNat p0)) (Int.toNat p0))]]):=⟨_,rfl⟩;refine EvL.zec (S':=⟨18,[(5,(.ptr 1 0)),(10,(.clo 85 [] [(.fptr false ((eI .i64).c false p1.2.2)),(.fptr false ((eI .i64).c false p1.2.1)),(.fptr false ((eL (eI .i64)).c false p1.1))]))],T1 y1⟩) (by rw[hT1]; exact wm0 [.k,.k] ⟨MB.es (eI .i64) true y1,⟨MB.cs ⟨rfl,qcK⟩,qcK⟩⟩) ?_;refine EvL.zok (n0:=2) (zgR g4) rfl (bm:=.block 1 (.reg false false [⟨some 13,.load none (.s 5),none⟩,⟨some 14,.mov (.s 6),none⟩,⟨some 15,.mov (.s 7),none⟩,⟨some 16,.idxS 1 (.s 13) (.s 14),none⟩,⟨none,.store 1 (.s 16) (.s 15),none⟩])) rfl T1 (fun i a=>zaz p0 (u3.drop i) a=some o1∧a.length=(Int.toNat p0)) (fun x L1=>match x with | .normal=>∃ a,o1=a∧a.length=(Int.toNat p0)∧L1=T1 a | .ret=>L1.length=2∧zfM (2+1) L1∧(zbe [.tmp 4] ((fzE true (eI .i64) r))) .ret ⟨18,[(5,(.ptr 1 0)),(10,(.clo 85 [] [(.fptr false ((eI .i64).c false p1.2.2)),(.fptr false ((eI .i64).c false p1.2.1)),(.fptr false ((eL (eI .i64)).c false p1.1))]))],L1 ++ [.lost]⟩| _=>False) y1 ?_ (qau _) ?_ ?_ ?_ (fun d L1 hx=>hx.elim) ?_ ?_ ?_ ?_ ?_ ?_
 ·intro a; rw[hT1]; rfl
 ·exact⟨(qah rfl),⟨qcK,⟨qcK,qcK,qcK,qcK⟩⟩,qcK⟩
 ·intro a; rw[hT1]; exact⟨(zsX (eI .i64) _ _ _),⟨(qah rfl),qcK⟩,qcK⟩
 ·intro x L1 hx;cases x with
  | normal=>obtain⟨a,_,_,rfl⟩:=hx; exact⟨by rw[hT1]; rfl,by rw[hT1]; exact⟨(zsX (eI .i64) _ _ _),⟨(qah rfl),qcK⟩,qcK⟩⟩
  | ret=>exact⟨hx.1,hx.2.1⟩
  | exit id=>exact hx.elim
  | panic d=>exact hx.elim
 ·exact⟨j1,zdi g2⟩
 ·rintro i l0 y5 args G lpF hy ⟨hi1,el0⟩ ⟨rfl,rfl⟩ hkin;rw[znQ hy]at hi1;simp only[zaz]at hi1;refine⟨_,_,rfl,rfl,?_⟩;rw[congrFun hT1 l0];refine zab ?_;obtain⟨x6,g7,hi1⟩:=bind_some hi1;obtain⟨y8,g9,hi1⟩:=bind_some hi1;try simp only[rnA,Nat.reduceEqDiff,Nat.reduceLT,Nat.reduceAdd,Nat.reduceLeDiff,el0,zbs g7,(show y5.1<(((Int.toNat p0):Nat):Int)from el0 ▸ zbN g7),zbd g7 ((eI .i64).c true),(show(l0.map ((eI .i64).c true)).set y5.1.toNat [(dI y5.2)]=y8.map ((eI .i64).c true)from zcy g9 ((eI .i64).c true))]
  exact⟨T1 y8,by rw[hT1]; rfl,by rw[hT1]; exact zbx.mK [.k,.k,.k] rfl rfl qcK ⟨MB.es (eI .i64) true y8,⟨MB.cs ⟨rfl,qcK⟩,⟨.same (hkin _ (by decide)),qcK⟩⟩⟩,y8,⟨hi1,(zce g9).trans el0⟩,rfl⟩
 ·rintro l0 ⟨hi1,el0⟩;rw[List.drop_length]at hi1;simp only[zaz]at hi1;exact⟨l0,(qab hi1).symm,el0,rfl⟩
 ·rintro _ ⟨l0,oeq,el0,rfl⟩;have oeq2:=oeq.symm;subst oeq2;rw[congrFun hT1 l0];refine zab ?_;try simp only[rnA,Nat.reduceEqDiff,Nat.reduceLT]
  replace h:=qab h; subst h;exact zbe.ret rfl (zal (e:=(eI .i64)) (t:=true) rfl (.inl rfl) (el0).symm (el0).symm (fun k h=>by cases h; exact qal _) (fun _=>rfl))
 ·intro id L1 hx; exact hx.elim
 intro L1 hx; exact hx.2.2
def zbh(p0:(List Int))(p1:Int):Option ((List Int)×Int):=
(zcN p0).bind fun r1=>
bif r1.2 then(
((bif (decide (p1<0))then(
some true)
else(
some (decide (r1.1≤p1))):Option Bool)).bind fun v21=>
bif v21 then(
some ([],2))
else(
(zd7 p0 r1.1 p1).bind fun r6=>
(zbQ (p0.length:Int) r6).bind fun r8=>
some (r8,0)))
else(
some ([],20))
theorem zfc{p0:(List Int)}{p1:Int}{r:((List Int)×Int)}(h:zbh p0 p1=some r):Lx.Fn mC 55 [(fzE false (eI .i64) p0),(dI p1)] (.tup [(fzE true (eI .i64) r.1),(dI r.2)]):=by
 refine fnO (by conv=>lhs; cbv) ?_;unfold zbh at h;refine zab ?_;obtain⟨r1,g2,h⟩:=bind_some h;try simp only[rnA,Nat.reduceLT,Nat.reduceAdd,reduceCtorEq]
 refine EvL.fn (zh9 g2) rfl rfl (.cons (zao _ _ (fun h=>nomatch h)) .nil) ?_;try simp only[rnA,Nat.reduceEqDiff,Nat.reduceLT,reduceCtorEq]
 cases c3:r1.2
 ·rw[c3,cond_false]at h;try simp only[rnA,Nat.reduceLT]
  replace h:=qab h; subst h;exact zbe.ret rfl (Snp.zjM (.cons (zaL (eI .i64)) (.cons (.lit _) .nil)))
 rw[c3,cond_true]at h;try simp only[rnA]
 obtain⟨o1,j1,h⟩:=bind_some h;obtain⟨T1,hT1⟩:=mkT fun a:Bool=>⟨29,[(0,(fzE false (eI .i64) p0)),(1,(dI p1)),(6,(dI r1.1)),(21,(dB a))],[]⟩
 refine EvL.jn T1 (fun a=>a=o1) ?_ ?_
 ·refine zab ?_;try simp only[rnA,Nat.reduceEqDiff,Nat.reduceLT,reduceCtorEq]
  cases c4:(decide (p1<0))
  ·rw[c4,cond_false]at j1;try simp only[rnA,Nat.reduceEqDiff,Nat.reduceLT,reduceCtorEq]
   replace j1:=qab j1; subst j1;exact lfj hT1 rfl (wm0 [] (by exact trivial))
  rw[c4,cond_true]at j1;try simp only[rnA,Nat.reduceEqDiff,Nat.reduceLT,reduceCtorEq]
  replace j1:=qab j1; subst j1;exact lfj hT1 rfl (wm0 [] (by exact trivial))
 rintro v21 rfl;rw[congrFun hT1 v21];refine zab ?_;try simp only[rnA,Nat.reduceEqDiff,reduceCtorEq]
 cases c5:v21
 ·rw[c5,cond_false]at h;obtain⟨r6,g7,h⟩:=bind_some h;try simp only[rnA,Nat.reduceEqDiff,Nat.reduceLT,reduceCtorEq,zaj]
  refine EvL.fnS (zhz g7) rfl rfl (.cons (zdU _ _ (fun h=>by cases h<;>contradiction)) (.cons (.lit _) (.cons (.lit _) .nil))) ⟨(zbg _ _),qcK,qcK,qcK⟩ ⟨qcK,⟨⟨rfl,qcK,qcK⟩,⟨rfl,qcK,qcK⟩,⟨rfl,zbg _ _,qcK⟩,qcK⟩⟩ ?_;obtain⟨r8,g9,h⟩:=bind_some h;try simp only[rnA,Nat.reduceLT]
  refine EvL.fn (zft g9) rfl rfl (.cons (.lit _) (.cons (.clo rfl rfl (Snps.get .nil) (Snps.get (.cons (.fptr (fun h=>nomatch h) rfl ((eI .i64).snp (t:=false) (t':=false) r6.2.2 (fun h=>nomatch h)).get) (.cons (.fptr (fun h=>nomatch h) rfl ((eI .i64).snp (t:=false) (t':=false) r6.2.1 (fun h=>nomatch h)).get) (.cons (.fptr (fun h=>nomatch h) rfl ((eL (eI .i64)).snp (t:=false) (t':=false) r6.1 (fun h=>nomatch h)).get) .nil))))) .nil)) ?_;try simp only[rnA,Nat.reduceEqDiff,Nat.reduceLT,reduceCtorEq]
  replace h:=qab h; subst h;exact zbe.ret rfl (Snp.zjM (.cons (zao _ _ (fun _=>rfl)) (.cons (.lit _) .nil)))
 rw[c5,cond_true]at h;try simp only[rnA,Nat.reduceLT]
 replace h:=qab h; subst h;exact zbe.ret rfl (Snp.zjM (.cons (zaL (eI .i64)) (.cons (.lit _) .nil)))
def zbP(p0:(List Int)):Nat→Int→Int→(List Int)→Option (List Int)
 | 0,_,_,_=>none
 | n+1,v1,v6,l0=>(
bif (decide (0≤v6))then(
(zaF p0 v6).bind fun x4=>
(zj6 v1 x4).bind fun q6=>
(zaF l0 v6).bind fun x8=>
(zgt l0 v6 q6).bind fun y10=>
(zm6 .i64 v1 x4).bind fun q12=>
zbP p0 n q12 (w64 (v6 - 1)) y10)
else(
some l0))
def zdg(p0:(List Int))(p1:Int):Option (List Int):=
(zfE 8 (p0.length:Int) 0).bind fun y1=>
((zbP p0 ((w64 ((p0.length:Int) - 1)) - 0+2:Int).toNat p1 (w64 ((p0.length:Int) - 1)) y1:Option (List Int))).bind fun l0=>
some l0
theorem zi6{p0:(List Int)}{p1:Int}{r:(List Int)}(h:zdg p0 p1=some r):Lx.Fn mC 56 [(fzE false (eI .i64) p0),(dI p1)] (fzE true (eI .i64) r):=by
 refine fnO (by conv=>lhs; cbv) ?_;unfold zdg at h;refine zab ?_;obtain⟨y1,g2,h⟩:=bind_some h;try simp only[rnA,Nat.reduceEqDiff,Nat.reduceLT,Nat.reduceAdd,reduceCtorEq,zaj,(zbD g2).1.1,(zbD g2).1.2,qca,(show List.replicate (Int.toNat (p0.length:Int)) [(dI 0)]=y1.map ((eI .i64).c true)from zdS g2 ((eI .i64).c true))]
 obtain⟨o1,j1,h⟩:=bind_some h;obtain⟨T1,hT1⟩:=mkT fun a:(List Int)=>⟨33,[(5,(.sl 0 0 1 (Int.toNat (p0.length:Int)) (some (Int.toNat (p0.length:Int))) (Int.toNat (p0.length:Int))))],[.els 1 (a.map ((eI .i64).c true))]⟩
 refine EvL.jn T1 (fun a=>a=o1∧a.length=(Int.toNat (p0.length:Int))) ?_ ?_
 ·refine zab ?_;simp only[rnA];obtain⟨T2,hT2⟩:=mkT fun a:(Int×Int×(List Int))=>⟨33,[(0,(fzE false (eI .i64) p0)),(1,(dI a.1)),(5,(.sl 0 0 1 (Int.toNat (p0.length:Int)) (some (Int.toNat (p0.length:Int))) (Int.toNat (p0.length:Int)))),(6,(dI a.2.1))],[.els 1 (a.2.2.map ((eI .i64).c true))]⟩
  refine EvL.rounds (α:=(Int×Int×(List Int))) T2 (fun n a=>zbP p0 n a.1 a.2.1 a.2.2=some o1∧a.2.2.length=(Int.toNat (p0.length:Int))) ((w64 ((p0.length:Int) - 1)) - 0+2:Int).toNat (p1,(w64 ((p0.length:Int) - 1)),y1) (by rw[hT2]; exact wm0 [.k] ⟨MB.es (eI .i64) true y1,qcK⟩) ⟨j1,zdi g2⟩ (fun _ h=>nomatch (show(none:Option (List Int))=some o1 from h.1)) ?_;rintro n ⟨v1,v6,l0⟩ ⟨j1,el0⟩;simp only[zbP]at j1;rw[congrFun hT2 (v1,v6,l0)];refine zab ?_;try simp only[rnA,Nat.reduceEqDiff,Nat.reduceLT,reduceCtorEq]
  cases c3:(decide (0≤v6))
  ·rw[c3,cond_false]at j1;try simp only[rnA]
   replace j1:=qab j1; subst j1;exact⟨_,⟨rfl,el0⟩,by rw[hT1]; exact wm0 [.k] ⟨MB.es (eI .i64) true l0,qcK⟩⟩
  rw[c3,cond_true]at j1;obtain⟨x4,g5,j1⟩:=bind_some j1;obtain⟨q6,g7,j1⟩:=bind_some j1;obtain⟨x8,g9,j1⟩:=bind_some j1;obtain⟨y10,g11,j1⟩:=bind_some j1;obtain⟨q12,g13,j1⟩:=bind_some j1;try simp only[rnA,Nat.reduceEqDiff,Nat.reduceLT,Nat.reduceLeDiff,reduceCtorEq,zai (n:=1) (e:=(eI .i64)) rfl g5,zfL g7,zgG g7,el0,zbs g9,(show v6<(((Int.toNat (p0.length:Int)):Nat):Int)from el0 ▸ zbN g9),zbd g9 ((eI .i64).c true),(show(l0.map ((eI .i64).c true)).set v6.toNat [(dI q6)]=y10.map ((eI .i64).c true)from zcy g11 ((eI .i64).c true)),zja g13]
  exact⟨(q12,(w64 (v6 - 1)),y10),⟨j1,(zce g11).trans el0⟩,by rw[hT2]; exact wm0 [.k] ⟨MB.es (eI .i64) true y10,qcK⟩⟩
 rintro l0 ⟨rfl,el0⟩;rw[congrFun hT1 l0];refine zab ?_;try simp only[rnA,Nat.reduceEqDiff,Nat.reduceLT]
 replace h:=qab h; subst h;exact zbe.ret rfl (zal (e:=(eI .i64)) (t:=true) rfl (.inl rfl) (el0).symm (el0).symm (fun k h=>by cases h; exact qal _) (fun _=>rfl))
def zc3(p0:(List Int))(p1:(List Int)):Nat→Int→Option (Out Unit Bool)
 | 0,_=>none
 | n+1,v5=>(
bif (decide (v5<(p0.length:Int)))then(
(zaF p0 v5).bind fun x3=>
(zaF p1 v5).bind fun x5=>
bif (x3 == x5)then(
zc3 p0 p1 n (w64 (v5+1)))
else(
some (.ret false)))
else(
some (.go ())))
def zeg(p0:(List Int))(p1:(List Int)):Option Bool:=
bif ((p0.length:Int)==(p1.length:Int))then(
((zc3 p0 p1 ((p0.length:Int) - 0+2:Int).toNat 0:Option (Out Unit Bool))).bind fun o=>match o with
| .go _=>(
some true)
| .ret r=>some r)
else(
some false)
theorem zml{p0:(List Int)}{p1:(List Int)}{r:Bool}(h:zeg p0 p1=some r):Lx.Fn mC 11 [(fzE false (eI .i64) p0),(fzE false (eI .i64) p1)] (dB r):=by
 refine fnO (by conv=>lhs; cbv) ?_;unfold zeg at h;refine zab ?_;try simp only[rnA,Nat.reduceEqDiff,Nat.reduceLT,Nat.reduceAdd,reduceCtorEq,zaj]
 cases c1:((p0.length:Int)==(p1.length:Int))
 ·rw[c1,cond_false]at h;try simp only[rnA,Nat.reduceLT]
  replace h:=qab h; subst h;exact zbe.ret rfl (.lit _)
 rw[c1,cond_true]at h;try simp only[rnA,Nat.reduceLT]
 obtain⟨o1,j1,h⟩:=bind_some h;obtain⟨T1,hT1⟩:=mkT fun a:Unit=>⟨26,[],[]⟩
 refine EvL.jn T1 (fun a=>o1=.go a) ?_ ?_
 ·refine zab ?_;simp only[rnA];obtain⟨T2,hT2⟩:=mkT fun a:Int=>⟨26,[(0,(fzE false (eI .i64) p0)),(1,(fzE false (eI .i64) p1)),(5,(dI a))],[]⟩
  refine EvL.rounds (α:=Int) T2 (fun n a=>zc3 p0 p1 n a=some o1) ((p0.length:Int) - 0+2:Int).toNat 0 (by rw[hT2]; exact wm0 [] (by exact trivial)) j1 (fun _ h=>nomatch (show(none:Option (Out Unit Bool))=some o1 from h)) ?_;rintro n v5 j1;simp only[zc3]at j1;rw[congrFun hT2 v5];refine zab ?_;try simp only[rnA,Nat.reduceEqDiff,Nat.reduceLT,reduceCtorEq,zaj]
  cases c2:(decide (v5<(p0.length:Int)))
  ·rw[c2,cond_false]at j1;try simp only[rnA]
   replace j1:=qab j1; subst j1;exact lfj hT1 rfl (wm0 [] (by exact trivial))
  rw[c2,cond_true]at j1;obtain⟨x3,g4,j1⟩:=bind_some j1;obtain⟨x5,g6,j1⟩:=bind_some j1;try simp only[rnA,Nat.reduceEqDiff,Nat.reduceLT,reduceCtorEq,zai (n:=1) (e:=(eI .i64)) rfl g4,zai (n:=1) (e:=(eI .i64)) rfl g6]
  cases c7:(x3 == x5)
  ·rw[c7,cond_false]at j1;try simp only[rnA,Nat.reduceLT]
   replace j1:=qab j1; subst j1;dsimp only at h;replace h:=qab h; subst h;exact zbe.ret rfl (.lit _)
  rw[c7,cond_true]at j1;try simp only[rnA,Nat.reduceEqDiff,Nat.reduceLT,reduceCtorEq]
  exact⟨(w64 (v5+1)),j1,by rw[hT2]; exact wm0 [] (by exact trivial)⟩
 rintro⟨⟩ rfl;dsimp only at h;rw[congrFun hT1 ()];refine zab ?_;try simp only[rnA,Nat.reduceLT]
 replace h:=qab h; subst h;exact zbe.ret rfl (.lit _)
def zck(x8:S_api_Node)(r1:(S_net_network×Int))(r4:((List Int)×Int)):Nat→Int→Int→Option Int
 | 0,_,_=>none
 | n+1,v12,v45=>(
bif (decide (v45<(x8.parents.length:Int)))then(
(zaF x8.parents v45).bind fun x11=>
(zaF r1.1.cards x11).bind fun x13=>
(zaF r4.1 x11).bind fun x15=>
zck x8 r1 r4 n (w64 ((w64 (v12 * x13))+x15)) (w64 (v45+1)))
else(
some v12))
def zci(r1:(S_net_network×Int))(r4:((List Int)×Int)):Nat→Int→Int→Option Int
 | 0,_,_=>none
 | n+1,v9,v37=>(
bif (decide (v37<(r1.1.net.nodes.length:Int)))then(
(zaF r1.1.net.nodes v37).bind fun x8=>
((zck x8 r1 r4 ((x8.parents.length:Int) - 0+2:Int).toNat 0 0:Option Int)).bind fun v12=>
(zaF x8.rows v12).bind fun x17=>
(zaF r4.1 v37).bind fun x19=>
(zaF x17 x19).bind fun x21=>
zci r1 r4 n (w64 (v9 * x21)) (w64 (v37+1)))
else(
some v9))
def zbv(p0:S_api_Net)(p1:Int):Option (Int×Int):=
(zaO p0).bind fun r1=>
bif (r1.2 == 0)then(
(zbh r1.1.cards p1).bind fun r4=>
bif (r4.2 == 0)then(
((zci r1 r4 ((r1.1.net.nodes.length:Int) - 0+2:Int).toNat 1 0:Option Int)).bind fun v9=>
some (v9,0))
else(
some (0,r4.2)))
else(
some (0,r1.2))
def zgK:C:=
 .seq (rg [oW 2 0,
 oK 4 0,
 oK 5 0])
 (.seq (rg [oN 16 2 2,
 oU 17 54 16,
 oM 15 17,
 oX 18 15 0,
 oX 19 15 1,
 ⟨some 6,.alloc [(.int .i64 0),(.slice none 0 0),(.slice none 0 0),(.slice none 0 0),(.slice none 0 0)],none⟩,
 oS 5 6 18,
 oM 7 19])
 (.seq (.seq (rg [oM 20 7,
 oD 21 .neq 20 0])
 (.cond (.s 21) (.seq (rg [oM 22 7,
 oK 4 0,
 oM 5 22])
 (.ret))
 (.skip)))
 (.seq (rg [oF 24 2 6,
 oL 25 24,
 oM 26 1,
 oV 27 55 25 26,
 oM 23 27,
 oX 28 23 0,
 oX 29 23 1,
 oM 8 28,
 oM 7 29])
 (.seq (.seq (rg [oM 30 7,
 oD 31 .neq 30 0])
 (.cond (.s 31) (.seq (rg [oM 32 7,
 oK 4 0,
 oM 5 32])
 (.ret))
 (.skip)))
 (.seq (rg [oK 9 1])
 (.seq (.seq (rg [oF 33 0 6,
 oF 34 1 33,
 oL 35 34,
 oE 36 35,
 oK 37 0])
 (.scope (.block 0 (.loop (.seq (rg [oB 38 .lss 37 36])
 (.seq (.cond (.s 38) (.skip)
 (.exit 0))
 (.seq (.block 1 (.seq (rg [oM 39 37,
 oI 40 3 35 37,
 oN 41 3 40,
 ⟨some 11,.alloc [(.int .i64 0),(.slice none 0 0),(.slice none 0 0)],none⟩,
 oM 10 39,
 oS 3 11 41])
 (.seq (rg [oK 12 0])
 (.seq (.seq (rg [oF 42 1 11,
 oL 43 42,
 oE 44 43,
 oK 45 0])
 (.scope (.block 2 (.loop (.seq (rg [oB 46 .lss 45 44])
 (.seq (.cond (.s 46) (.skip)
 (.exit 2))
 (.seq (.block 3 (.seq (rg [oI 47 1 43 45,
 oL 48 47,
 oM 14 48])
 (.reg true false [oM 49 12,
 oF 50 2 6,
 oL 51 50,
 oM 52 14,
 oI 53 1 51 52,
 oL 54 53,
 oB 55 .mul 49 54,
 oM 56 8,
 oM 57 14,
 oI 58 1 56 57,
 oL 59 58,
 oB 60 .add 55 59,
 oM 12 60])))
 (rg [oD 61 .add 45 1,
 oM 45 61]))))))))
 (.reg true false [oM 62 9,
 oF 63 2 11,
 oL 64 63,
 oM 65 12,
 oI 66 1 64 65,
 oL 67 66,
 oM 68 8,
 oM 69 10,
 oI 70 1 68 69,
 oL 71 70,
 oI 72 1 67 71,
 oL 73 72,
 oB 74 .mul 62 73,
 oM 9 74])))))
 (rg [oD 75 .add 37 1,
 oM 37 75]))))))))
 (.seq (rg [oM 76 9,
 oM 4 76,
 oK 5 0])
 (.ret))))))))
theorem zh7:zjK mC 10=some (77,zgK,[.tmp 4,.tmp 5],false):=zbT (by kernel_rfl)
theorem zjO{p0:S_api_Net}{p1:Int}{r:(Int×Int)}(h:zbv p0 p1=some r):Lx.Fn mC 10 [(.agg [(dI p0.grain),(fzE false zaa p0.nodes)]),(dI p1)] (.tup [(dI r.1),(dI r.2)]):=by
 refine Fn.of zh7 (zbE rfl) (qah rfl) ?_;unfold zbv at h;simp only[zgK,zeJ];refine zab ?_;obtain⟨r1,g2,h⟩:=bind_some h;try simp only[rnA,Nat.reduceEqDiff,Nat.reduceLT,Nat.reduceAdd,Nat.reduceLeDiff,reduceCtorEq]
 refine EvL.fnS (zfH g2) rfl rfl (.cons (Mzs.agg (.cons (.lit _) (.cons (zdU _ _ (fun h=>by cases h<;>contradiction)) .nil))) .nil) ⟨⟨qcK,(zbg _ _),qcK⟩,qcK⟩ ⟨⟨qcK,(zbg _ _),(zbg _ _),(zbg _ _),(zbg _ _),qcK⟩,qcK,qcK⟩ ?_;try simp only[rnA,Nat.reduceEqDiff,Nat.reduceLT,Nat.reduceAdd,Nat.reduceLeDiff,reduceCtorEq]
 cases c3:(r1.2 == 0)
 ·rw[c3,cond_false]at h;try simp only[rnA,Nat.reduceEqDiff,Nat.reduceLT,reduceCtorEq]
  replace h:=qab h; subst h;exact zbe.ret rfl (Snp.zjM (.cons (.lit _) (.cons (.lit _) .nil)))
 rw[c3,cond_true]at h;obtain⟨r4,g5,h⟩:=bind_some h;try simp only[rnA,Nat.reduceEqDiff,Nat.reduceLT,reduceCtorEq]
 refine EvL.fn (zfc g5) rfl rfl (.cons (zao _ _ (fun h=>nomatch h)) (.cons (.lit _) .nil)) ?_;try simp only[rnA,Nat.reduceEqDiff,Nat.reduceLT,reduceCtorEq]
 cases c6:(r4.2 == 0)
 ·rw[c6,cond_false]at h;try simp only[rnA,Nat.reduceEqDiff,Nat.reduceLT,reduceCtorEq]
  replace h:=qab h; subst h;exact zbe.ret rfl (Snp.zjM (.cons (.lit _) (.cons (.lit _) .nil)))
 rw[c6,cond_true]at h;try simp only[rnA,Nat.reduceEqDiff,Nat.reduceLT,reduceCtorEq,zaj]
 obtain⟨o7,j7,h⟩:=bind_some h;obtain⟨T7,hT7⟩:=mkT fun a:Int=>⟨77,[(9,(dI a))],[]⟩
 refine EvL.jn T7 (fun a=>a=o7) ?_ ?_
 ·refine zab ?_;simp only[rnA];obtain⟨T12,hT12⟩:=mkT fun a:(Int×Int)=>⟨77,[(6,(.ptr 1 0)),(8,(fzE true (eI .i64) r4.1)),(9,(dI a.1)),(35,(fzE false zaa r1.1.net.nodes)),(36,(dI (r1.1.net.nodes.length:Int))),(37,(dI a.2))],[.gone,.cells [(dI r1.1.net.grain),(fzE false zaa r1.1.net.nodes),(fzE false (eI .i64) r1.1.cards),(fzE false (eI .u64) r1.1.sets),(fzE false (eI .i64) r1.1.order)]]⟩
  refine EvL.rounds (α:=(Int×Int)) T12 (fun n a=>zci r1 r4 n a.1 a.2=some o7) ((r1.1.net.nodes.length:Int) - 0+2:Int).toNat (1,0) (by rw[hT12]; exact wm0 [.d,.k] ⟨rfl,⟨MB.cs ⟨qcK,qcK,qcK,qcK,qcK,qcK⟩,qcK⟩⟩) j7 (fun _ h=>nomatch (show(none:Option Int)=some o7 from h)) ?_;rintro n ⟨v9,v37⟩ j7;simp only[zci]at j7;rw[congrFun hT12 (v9,v37)];refine zab ?_;try simp only[rnA,Nat.reduceEqDiff,Nat.reduceLT]
  cases c7:(decide (v37<(r1.1.net.nodes.length:Int)))
  ·rw[c7,cond_false]at j7;try simp only[rnA]
   replace j7:=qab j7; subst j7;exact lfj hT7 rfl (wm0 [] (by exact trivial))
  rw[c7,cond_true]at j7;obtain⟨x8,g9,j7⟩:=bind_some j7;try simp only[rnA,Nat.reduceEqDiff,Nat.reduceLT,Nat.reduceAdd,Nat.reduceLeDiff,zac,zai (n:=3) (e:=zaa) rfl g9,zaj]
  obtain⟨o13,j13,j7⟩:=bind_some j7;obtain⟨T13,hT13⟩:=mkT fun a:Int=>⟨77,[(6,(.ptr 1 0)),(8,(fzE true (eI .i64) r4.1)),(9,(dI v9)),(10,(dI v37)),(11,(.ptr 2 0)),(12,(dI a)),(35,(fzE false zaa r1.1.net.nodes)),(36,(dI (r1.1.net.nodes.length:Int))),(37,(dI v37))],[.gone,.cells [(dI r1.1.net.grain),(fzE false zaa r1.1.net.nodes),(fzE false (eI .i64) r1.1.cards),(fzE false (eI .u64) r1.1.sets),(fzE false (eI .i64) r1.1.order)],.cells [(dI x8.card),(fzE false (eI .i64) x8.parents),(fzE false (eL (eI .i64)) x8.rows)]]⟩
  refine EvL.jn T13 (fun a=>a=o13) ?_ ?_
  ·refine zab ?_;simp only[rnA];obtain⟨T14,hT14⟩:=mkT fun a:(Int×Int)=>⟨77,[(6,(.ptr 1 0)),(8,(fzE true (eI .i64) r4.1)),(9,(dI v9)),(10,(dI v37)),(11,(.ptr 2 0)),(12,(dI a.1)),(35,(fzE false zaa r1.1.net.nodes)),(36,(dI (r1.1.net.nodes.length:Int))),(37,(dI v37)),(43,(fzE false (eI .i64) x8.parents)),(44,(dI (x8.parents.length:Int))),(45,(dI a.2))],[.gone,.cells [(dI r1.1.net.grain),(fzE false zaa r1.1.net.nodes),(fzE false (eI .i64) r1.1.cards),(fzE false (eI .u64) r1.1.sets),(fzE false (eI .i64) r1.1.order)],.cells [(dI x8.card),(fzE false (eI .i64) x8.parents),(fzE false (eL (eI .i64)) x8.rows)]]⟩
   refine EvL.rounds (α:=(Int×Int)) T14 (fun n a=>zck x8 r1 r4 n a.1 a.2=some o13) ((x8.parents.length:Int) - 0+2:Int).toNat (0,0) (by rw[hT14]; exact wm0 [.d,.k,.k] ⟨rfl,⟨MB.cs ⟨qcK,qcK,qcK,qcK,qcK,qcK⟩,⟨MB.cs ⟨qcK,qcK,qcK,qcK⟩,qcK⟩⟩⟩) j13 (fun _ h=>nomatch (show(none:Option Int)=some o13 from h)) ?_;rintro n ⟨v12,v45⟩ j13;simp only[zck]at j13;rw[congrFun hT14 (v12,v45)];refine zab ?_;try simp only[rnA,Nat.reduceEqDiff,Nat.reduceLT]
   cases c10:(decide (v45<(x8.parents.length:Int)))
   ·rw[c10,cond_false]at j13;try simp only[rnA,Nat.reduceEqDiff,Nat.reduceLT,reduceCtorEq]
    replace j13:=qab j13; subst j13;exact lfj hT13 rfl (wm0 [.d,.k,.k] ⟨rfl,⟨MB.cs ⟨qcK,qcK,qcK,qcK,qcK,qcK⟩,⟨MB.cs ⟨qcK,qcK,qcK,qcK⟩,qcK⟩⟩⟩)
   rw[c10,cond_true]at j13;obtain⟨x11,g12,j13⟩:=bind_some j13;obtain⟨x13,g14,j13⟩:=bind_some j13;obtain⟨x15,g16,j13⟩:=bind_some j13;try simp only[rnA,Nat.reduceEqDiff,Nat.reduceLT,zai (n:=1) (e:=(eI .i64)) rfl g12,zai (n:=1) (e:=(eI .i64)) rfl g14,zai (n:=1) (e:=(eI .i64)) rfl g16]
   exact⟨((w64 ((w64 (v12 * x13))+x15)),(w64 (v45+1))),j13,by rw[hT14]; exact wm0 [.d,.k,.k] ⟨rfl,⟨MB.cs ⟨qcK,qcK,qcK,qcK,qcK,qcK⟩,⟨MB.cs ⟨qcK,qcK,qcK,qcK⟩,qcK⟩⟩⟩⟩
  rintro v12 rfl;rw[congrFun hT13 v12];refine zab ?_;obtain⟨x17,g18,j7⟩:=bind_some j7;obtain⟨x19,g20,j7⟩:=bind_some j7;obtain⟨x21,g22,j7⟩:=bind_some j7;try simp only[rnA,Nat.reduceEqDiff,Nat.reduceLT,zai (n:=1) (e:=(eL (eI .i64))) rfl g18,zai (n:=1) (e:=(eI .i64)) rfl g20,zai (n:=1) (e:=(eI .i64)) rfl g22]
  exact⟨((w64 (v9 * x21)),(w64 (v37+1))),j7,by rw[hT12]; exact wm0 [.d,.k] ⟨rfl,⟨MB.cs ⟨qcK,qcK,qcK,qcK,qcK,qcK⟩,qcK⟩⟩⟩
 rintro v9 rfl;rw[congrFun hT7 v9];refine zab ?_;try simp only[rnA,Nat.reduceEqDiff,Nat.reduceLT]
 replace h:=qab h; subst h;exact zbe.ret rfl (Snp.zjM (.cons (.lit _) (.cons (.lit _) .nil)))
def zcb(p0:S_api_Net)(p1:Int):Option (List Int):=
(zb9 p0).bind fun r1=>
(zdg r1 p1).bind fun r3=>
some r3
theorem zgm{p0:S_api_Net}{p1:Int}{r:(List Int)}(h:zcb p0 p1=some r):Lx.Fn mC 12 [(.agg [(dI p0.grain),(fzE false zaa p0.nodes)]),(dI p1)] (fzE true (eI .i64) r):=by
 refine fnO (by conv=>lhs; cbv) ?_;unfold zcb at h;refine zab ?_;obtain⟨r1,g2,h⟩:=bind_some h;try simp only[rnA,Nat.reduceEqDiff,reduceIte,Nat.reduceLT,Nat.reduceAdd,Nat.reduceLeDiff,Nat.reduceMul,Nat.reduceSub,Int.reduceLE,Int.reduceLT,Int.reduceBEq,Nat.reduceBEq,reduceCtorEq,zac,zar,zdo]
 refine EvL.fn (zeL g2) rfl rfl (.cons (.zcp (.cons (.lit _) (.cons (zao _ _ (fun h=>nomatch h)) .nil))) .nil) ?_;obtain⟨r3,g4,h⟩:=bind_some h;try simp only[rnA,Nat.reduceEqDiff,reduceIte,Nat.reduceLT,Nat.reduceAdd,Nat.reduceLeDiff,Nat.reduceMul,Nat.reduceSub,Int.reduceLE,Int.reduceLT,Int.reduceBEq,Nat.reduceBEq,reduceCtorEq,zac,zar]
 refine EvL.fn (zi6 g4) rfl rfl (.cons (zao _ _ (fun h=>nomatch h)) (.cons (.lit _) .nil)) ?_;try simp only[rnA,Nat.reduceEqDiff,reduceIte,Nat.reduceLT,Nat.reduceAdd,Nat.reduceLeDiff,Nat.reduceMul,Nat.reduceSub,Int.reduceLE,Int.reduceLT,Int.reduceBEq,Nat.reduceBEq,reduceCtorEq,zac,zar]
 replace h:=qab h; subst h;exact zbe.ret rfl (zao _ _ (fun _=>rfl))
def zcc(p1:(List Int))(p0:(List Int)):Nat→Int→Int→Int→Option Int
 | 0,_,_,_=>none
 | n+1,v5,v6,v7=>(
bif (decide (0≤v7))then(
(zaF p1 v7).bind fun x2=>
(zaF p0 v7).bind fun x4=>
zcc p1 p0 n (w64 (v5+(w64 (x2 * v6)))) (w64 (v6 * x4)) (w64 (v7 - 1)))
else(
some v5))
def zdQ(p0:(List Int))(p1:(List Int)):Option Int:=
((zcc p1 p0 ((w64 ((p0.length:Int) - 1)) - 0+2:Int).toNat 0 1 (w64 ((p0.length:Int) - 1)):Option Int)).bind fun v5=>
some v5
theorem zlc{p0:(List Int)}{p1:(List Int)}{r:Int}(h:zdQ p0 p1=some r):Lx.Fn mC 78 [(fzE false (eI .i64) p0),(fzE false (eI .i64) p1)] (dI r):=by
 refine fnO (by conv=>lhs; cbv) ?_;unfold zdQ at h;refine zab ?_;try simp only[rnA,Nat.reduceEqDiff,reduceIte,Nat.reduceLT,Nat.reduceAdd,Nat.reduceLeDiff,Nat.reduceMul,Nat.reduceSub,Int.reduceLE,Int.reduceLT,Int.reduceBEq,Nat.reduceBEq,reduceCtorEq,zaj]
 obtain⟨o1,j1,h⟩:=bind_some h;obtain⟨T1,hT1⟩:=mkT fun a:Int=>⟨30,[(5,(dI a))],[]⟩
 refine EvL.jn T1 (fun a=>a=o1) ?_ ?_
 ·refine zab ?_;simp only[rnA,Nat.reduceEqDiff,reduceIte,Nat.reduceLT,Nat.reduceAdd,Nat.reduceLeDiff,Nat.reduceMul,Nat.reduceSub,Int.reduceLE,Int.reduceLT,Int.reduceBEq,Nat.reduceBEq,reduceCtorEq];obtain⟨T2,hT2⟩:=mkT fun a:(Int×Int×Int)=>⟨30,[(0,(fzE false (eI .i64) p0)),(1,(fzE false (eI .i64) p1)),(5,(dI a.1)),(6,(dI a.2.1)),(7,(dI a.2.2))],[]⟩
  refine EvL.rounds (α:=(Int×Int×Int)) T2 (fun n a=>zcc p1 p0 n a.1 a.2.1 a.2.2=some o1) ((w64 ((p0.length:Int) - 1)) - 0+2:Int).toNat (0,1,(w64 ((p0.length:Int) - 1))) (by rw[hT2]; exact wm0 [] (by exact trivial)) j1 (fun _ h=>nomatch (show(none:Option Int)=some o1 from h)) ?_;rintro n ⟨v5,v6,v7⟩ j1;simp only[zcc]at j1;rw[congrFun hT2 (v5,v6,v7)];refine zab ?_;try simp only[rnA,Nat.reduceEqDiff,reduceIte,Nat.reduceLT,Nat.reduceAdd,Nat.reduceLeDiff,Nat.reduceMul,Nat.reduceSub,Int.reduceLE,Int.reduceLT,Int.reduceBEq,Nat.reduceBEq,reduceCtorEq]
  cases c1:(decide (0≤v7))
  ·rw[c1,cond_false]at j1;try simp only[rnA,Nat.reduceEqDiff,reduceIte,Nat.reduceLT,Nat.reduceAdd,Nat.reduceLeDiff,Nat.reduceMul,Nat.reduceSub,Int.reduceLE,Int.reduceLT,Int.reduceBEq,Nat.reduceBEq,reduceCtorEq,c1]
   replace j1:=qab j1; subst j1;exact lfj hT1 rfl (wm0 [] (by exact trivial))
  rw[c1,cond_true]at j1;obtain⟨x2,g3,j1⟩:=bind_some j1;obtain⟨x4,g5,j1⟩:=bind_some j1;try simp only[rnA,Nat.reduceEqDiff,reduceIte,Nat.reduceLT,Nat.reduceAdd,Nat.reduceLeDiff,Nat.reduceMul,Nat.reduceSub,Int.reduceLE,Int.reduceLT,Int.reduceBEq,Nat.reduceBEq,reduceCtorEq,zai (n:=1) (e:=(eI .i64)) rfl g3,zai (n:=1) (e:=(eI .i64)) rfl g5,c1]
  exact⟨((w64 (v5+(w64 (x2 * v6)))),(w64 (v6 * x4)),(w64 (v7 - 1))),j1,by rw[hT2]; exact wm0 [] (by exact trivial)⟩
 rintro v5 rfl;rw[congrFun hT1 v5];refine zab ?_;try simp only[rnA,Nat.reduceEqDiff,reduceIte,Nat.reduceLT,Nat.reduceAdd,Nat.reduceLeDiff,Nat.reduceMul,Nat.reduceSub,Int.reduceLE,Int.reduceLT,Int.reduceBEq,Nat.reduceBEq,reduceCtorEq]
 replace h:=qab h; subst h;exact zbe.ret rfl (.lit _)
def ze9(p0:S_api_Net)(p1:Int)(p2:(List Int)):Option (List Int):=
(zaF p0.nodes p1).bind fun x1=>
(zaE p0 p1).bind fun r3=>
(zfg p2 x1.parents).bind fun r5=>
(zdQ r3 r5).bind fun r7=>
(zaF x1.rows r7).bind fun x9=>
some x9
def zkZ:C:=
 .seq (rg [oW 3 0,
 ⟨some 6,.mov (.c (.slice none 0 0)),none⟩])
 (.seq (.reg true true [oF 7 1 3,
 oL 8 7,
 oM 9 1,
 oI 10 3 8 9,
 oF 11 2 10,
 oL 12 11,
 oN 13 2 3,
 oM 14 1,
 oM 16 2,
 oF 17 1 3,
 oL 18 17,
 oM 19 1,
 oI 20 3 18 19,
 oF 21 1 20,
 oL 22 21,
 oV 15 52 13 14,
 oV 23 72 16 22,
 oV 24 78 15 23,
 oI 25 1 12 24,
 oL 26 25,
 oM 6 26])
 (.ret))
theorem zlX:zjK mC 57=some (27,zkZ,[.tmp 6],false):=zbT (by kernel_rfl)
theorem zos{p0:S_api_Net}{p1:Int}{p2:(List Int)}{r:(List Int)}(h:ze9 p0 p1 p2=some r):Lx.FnA mC 57 [(.agg [(dI p0.grain),(fzE false zaa p0.nodes)]),(dI p1),(fzE false (eI .i64) p2)] (fzE false (eI .i64) r):=by
 refine FnA.of zlX (zbE rfl) (qah rfl) ?_;unfold ze9 at h;simp only[zkZ,zeJ];refine zab ?_;obtain⟨x1,g2,h⟩:=bind_some h;obtain⟨r3,g4,h⟩:=bind_some h;try simp only[rnA,Nat.reduceEqDiff,reduceIte,Nat.reduceLT,Nat.reduceAdd,Nat.reduceLeDiff,Nat.reduceMul,Nat.reduceSub,Int.reduceLE,Int.reduceLT,Int.reduceBEq,Nat.reduceBEq,reduceCtorEq,zac,zar,zdo,zai (n:=3) (e:=zaa) rfl g2]
 refine EvL.fn (zcO g4) rfl rfl (.cons (.zcp (.cons (.lit _) (.cons (zao _ _ (fun h=>nomatch h)) .nil))) (.cons (.lit _) .nil)) ?_;obtain⟨r5,g6,h⟩:=bind_some h;try simp only[rnA,Nat.reduceEqDiff,reduceIte,Nat.reduceLT,Nat.reduceAdd,Nat.reduceLeDiff,Nat.reduceMul,Nat.reduceSub,Int.reduceLE,Int.reduceLT,Int.reduceBEq,Nat.reduceBEq,reduceCtorEq,zac,zar]
 refine EvL.fn (zle g6) rfl rfl (.cons (zao _ _ (fun h=>nomatch h)) (.cons (zao _ _ (fun h=>nomatch h)) .nil)) ?_;obtain⟨r7,g8,h⟩:=bind_some h;try simp only[rnA,Nat.reduceEqDiff,reduceIte,Nat.reduceLT,Nat.reduceAdd,Nat.reduceLeDiff,Nat.reduceMul,Nat.reduceSub,Int.reduceLE,Int.reduceLT,Int.reduceBEq,Nat.reduceBEq,reduceCtorEq,zac,zar]
 refine EvL.fn (zlc g8) rfl rfl (.cons (zao _ _ (fun h=>nomatch h)) (.cons (zao _ _ (fun h=>nomatch h)) .nil)) ?_;obtain⟨x9,g10,h⟩:=bind_some h;try simp only[rnA,Nat.reduceEqDiff,reduceIte,Nat.reduceLT,Nat.reduceAdd,Nat.reduceLeDiff,Nat.reduceMul,Nat.reduceSub,Int.reduceLE,Int.reduceLT,Int.reduceBEq,Nat.reduceBEq,reduceCtorEq,zac,zar,zai (n:=1) (e:=(eL (eI .i64))) rfl g10]
 replace h:=qab h; subst h;exact zkJ.ret rfl (zao _ _ (fun h=>nomatch h))
def zch(p0:S_api_Net)(r1:(List Int)):Nat→Int→Int→Option Int
 | 0,_,_=>none
 | n+1,v6,v7=>(
bif (decide (v7<(p0.nodes.length:Int)))then(
(zaF r1 v7).bind fun x4=>
(ze9 p0 v7 r1).bind fun r6=>
(zaF r6 x4).bind fun x8=>
zch p0 r1 n (w64 (v6 * x8)) (w64 (v7+1)))
else(
some v6))
def zdd(p0:S_api_Net)(p1:Int):Option Int:=
(zcb p0 p1).bind fun r1=>
((zch p0 r1 ((p0.nodes.length:Int) - 0+2:Int).toNat 1 0:Option Int)).bind fun v6=>
some v6
theorem zjq{p0:S_api_Net}{p1:Int}{r:Int}(h:zdd p0 p1=some r):Lx.Fn mC 14 [(.agg [(dI p0.grain),(fzE false zaa p0.nodes)]),(dI p1)] (dI r):=by
 refine fnO (by conv=>lhs; cbv) ?_;unfold zdd at h;refine zab ?_;obtain⟨r1,g2,h⟩:=bind_some h;try simp only[rnA,Nat.reduceEqDiff,Nat.reduceLT,Nat.reduceAdd,Nat.reduceLeDiff,reduceCtorEq]
 refine EvL.fn (zgm g2) rfl rfl (.cons (.zcp (.cons (.lit _) (.cons (zao _ _ (fun h=>nomatch h)) .nil))) (.cons (.lit _) .nil)) ?_;try simp only[rnA,Nat.reduceEqDiff,Nat.reduceLT,reduceCtorEq]
 obtain⟨o1,j1,h⟩:=bind_some h;obtain⟨T1,hT1⟩:=mkT fun a:Int=>⟨31,[(6,(dI a))],[]⟩
 refine EvL.jn T1 (fun a=>a=o1) ?_ ?_
 ·refine zab ?_;simp only[rnA];obtain⟨T2,hT2⟩:=mkT fun a:(Int×Int)=>⟨31,[(2,(.ptr 0 0)),(5,(fzE true (eI .i64) r1)),(6,(dI a.1)),(7,(dI a.2))],[.cells [(dI p0.grain),(fzE false zaa p0.nodes)]]⟩
  refine EvL.rounds (α:=(Int×Int)) T2 (fun n a=>zch p0 r1 n a.1 a.2=some o1) ((p0.nodes.length:Int) - 0+2:Int).toNat (1,0) (by rw[hT2]; exact wm0 [.k] ⟨MB.cs ⟨qcK,qcK,qcK⟩,qcK⟩) j1 (fun _ h=>nomatch (show(none:Option Int)=some o1 from h)) ?_;rintro n ⟨v6,v7⟩ j1;simp only[zch]at j1;rw[congrFun hT2 (v6,v7)];refine zab ?_;try simp only[rnA,Nat.reduceEqDiff,Nat.reduceLT,zaj]
  cases c3:(decide (v7<(p0.nodes.length:Int)))
  ·rw[c3,cond_false]at j1;try simp only[rnA]
   replace j1:=qab j1; subst j1;exact lfj hT1 rfl (wm0 [] (by exact trivial))
  rw[c3,cond_true]at j1;obtain⟨x4,g5,j1⟩:=bind_some j1;obtain⟨r6,g7,j1⟩:=bind_some j1;try simp only[rnA,Nat.reduceEqDiff,Nat.reduceLT,Nat.reduceAdd,Nat.reduceLeDiff,zai (n:=1) (e:=(eI .i64)) rfl g5]
  refine EvL.fnS (zos g7) rfl rfl (.cons (Mzs.agg (.cons (.lit _) (.cons (zdU _ _ (fun h=>by cases h<;>contradiction)) .nil))) (.cons (.lit _) (.cons (zdU _ _ (fun h=>by cases h<;>contradiction)) .nil))) ⟨⟨qcK,(zbg _ _),qcK⟩,qcK,(zbg _ _),qcK⟩ (zbg _ _) ?_;obtain⟨x8,g9,j1⟩:=bind_some j1;try simp only[rnA,Nat.reduceEqDiff,Nat.reduceLT,zai (n:=1) (e:=(eI .i64)) rfl g9]
  exact⟨((w64 (v6 * x8)),(w64 (v7+1))),j1,by rw[hT2]; exact wm0 [.k] ⟨MB.cs ⟨qcK,qcK,qcK⟩,qcK⟩⟩
 rintro v6 rfl;rw[congrFun hT1 v6];refine zab ?_;try simp only[rnA,Nat.reduceEqDiff,Nat.reduceLT]
 replace h:=qab h; subst h;exact zbe.ret rfl (.lit _)
def zdl(p0:Int)(p1:Int)(p2:Int)(p3:Int):Option Bool:=
bif (p2 == 0)then(
((bif (p0 == p3)then(
some (p1 == 0))
else(
some false):Option Bool)).bind fun v8=>
some v8)
else(
((bif (p0 == 0)then(
some (p1 == p2))
else(
some false):Option Bool)).bind fun v8=>
some v8)
theorem zjB{p0:Int}{p1:Int}{p2:Int}{p3:Int}{r:Bool}(h:zdl p0 p1 p2 p3=some r):Lx.Fn mC 13 [(dI p0),(dI p1),(dI p2),(dI p3)] (dB r):=by
 refine fnO (by conv=>lhs; cbv) ?_;unfold zdl at h;refine zab ?_;try simp only[rnA,Nat.reduceEqDiff,Nat.reduceLT,Nat.reduceAdd,reduceCtorEq]
 cases c1:(p2 == 0)
 ·rw[c1,cond_false]at h;try simp only[rnA]
  obtain⟨o1,j1,h⟩:=bind_some h;obtain⟨T1,hT1⟩:=mkT fun a:Bool=>⟨25,[(8,(dB a))],[]⟩
  refine EvL.jn T1 (fun a=>a=o1) ?_ ?_
  ·refine zab ?_;try simp only[rnA,Nat.reduceEqDiff,Nat.reduceLT,reduceCtorEq]
   cases c2:(p0 == 0)
   ·rw[c2,cond_false]at j1;try simp only[rnA,Nat.reduceEqDiff,Nat.reduceLT,reduceCtorEq]
    replace j1:=qab j1; subst j1;exact lfj hT1 rfl (wm0 [] (by exact trivial))
   rw[c2,cond_true]at j1;try simp only[rnA,Nat.reduceEqDiff,Nat.reduceLT,reduceCtorEq]
   replace j1:=qab j1; subst j1;exact lfj hT1 rfl (wm0 [] (by exact trivial))
  rintro v8 rfl;rw[congrFun hT1 v8];refine zab ?_;try simp only[rnA]
  replace h:=qab h; subst h;exact zbe.ret rfl (.lit _)
 rw[c1,cond_true]at h;try simp only[rnA]
 obtain⟨o2,j2,h⟩:=bind_some h;obtain⟨T2,hT2⟩:=mkT fun a:Bool=>⟨25,[(8,(dB a))],[]⟩
 refine EvL.jn T2 (fun a=>a=o2) ?_ ?_
 ·refine zab ?_;try simp only[rnA,Nat.reduceEqDiff,Nat.reduceLT,reduceCtorEq]
  cases c3:(p0 == p3)
  ·rw[c3,cond_false]at j2;try simp only[rnA,Nat.reduceEqDiff,Nat.reduceLT,reduceCtorEq]
   replace j2:=qab j2; subst j2;exact lfj hT2 rfl (wm0 [] (by exact trivial))
  rw[c3,cond_true]at j2;try simp only[rnA,Nat.reduceEqDiff,Nat.reduceLT,reduceCtorEq]
  replace j2:=qab j2; subst j2;exact lfj hT2 rfl (wm0 [] (by exact trivial))
 rintro v8 rfl;rw[congrFun hT2 v8];refine zab ?_;try simp only[rnA]
 replace h:=qab h; subst h;exact zbe.ret rfl (.lit _)
def zbG(p1:S_api_Net)(p0:S_haruspexref05_Known):Nat→Int→(List Int)→Option (List Int)
 | 0,_,_=>none
 | n+1,v6,l2=>(
bif (decide (v6<(p1.nodes.length:Int)))then(
(zi2 .u8 p0.which (IntKind.u64.wrap v6)).bind fun q2=>
((bif ((zlo .u8 q2 1)== 1)then(
(zaF [p0.v.a0,p0.v.a1,p0.v.a2,p0.v.a3,p0.v.a4,p0.v.a5,p0.v.a6,p0.v.a7] v6).bind fun x5=>
(zaF p1.nodes v6).bind fun x7=>
(zj6 (w64 x5) x7.card).bind fun q9=>
some q9)
else(
some (-1)):Option Int)).bind fun v7=>
(zd6 8 l2 [v7]).bind fun y11=>
zbG p1 p0 n (w64 (v6+1)) y11)
else(
some l2))
def zcv(p0:S_haruspexref05_Known)(p1:S_api_Net):Option (List Int):=
((zbG p1 p0 ((p1.nodes.length:Int) - 0+2:Int).toNat 0 []:Option (List Int))).bind fun l2=>
some l2
theorem zhy{p0:S_haruspexref05_Known}{p1:S_api_Net}{r:(List Int)}(h:zcv p0 p1=some r):Lx.Fn mC 15 [(.agg [(dU8 p0.which),(dU8 p0.v.a0),(dU8 p0.v.a1),(dU8 p0.v.a2),(dU8 p0.v.a3),(dU8 p0.v.a4),(dU8 p0.v.a5),(dU8 p0.v.a6),(dU8 p0.v.a7)]),(.agg [(dI p1.grain),(fzE false zaa p1.nodes)])] (fzE true (eI .i64) r):=by
 refine fnO (by conv=>lhs; cbv) ?_;unfold zcv at h;refine zab ?_;try simp only[rnA,Nat.reduceEqDiff,Nat.reduceLT,Nat.reduceAdd,reduceCtorEq]
 obtain⟨o5,j5,h⟩:=bind_some h;obtain⟨T5,hT5⟩:=mkT fun a:(List Int)=>⟨39,[(5,(.sl 2 0 1 a.length none a.length))],[.gone,.gone,.grow 1 (a.map ((eI .i64).c true))]⟩
 refine EvL.jn T5 (fun a=>a=o5) ?_ ?_
 ·refine zab ?_;simp only[rnA];obtain⟨T9,hT9⟩:=mkT fun a:(Int×(List Int))=>⟨39,[(2,(.ptr 0 0)),(3,(.ptr 1 0)),(5,(.sl 2 0 1 a.2.length none a.2.length)),(6,(dI a.1))],[.cells [(dU8 p0.which),(dU8 p0.v.a0),(dU8 p0.v.a1),(dU8 p0.v.a2),(dU8 p0.v.a3),(dU8 p0.v.a4),(dU8 p0.v.a5),(dU8 p0.v.a6),(dU8 p0.v.a7)],.cells [(dI p1.grain),(fzE false zaa p1.nodes)],.grow 1 (a.2.map ((eI .i64).c true))]⟩
  refine EvL.zec (zbx.ghost (n:=1) (k:=5) (by decide) rfl) ?_;refine EvL.rounds (α:=(Int×(List Int))) T9 (fun n a=>zbG p1 p0 n a.1 a.2=some o5) ((p1.nodes.length:Int) - 0+2:Int).toNat (0,[]) (by rw[hT9]; exact wm0 [.k,.k,.k] ⟨MB.cs ⟨qcK,qcK,qcK,qcK,qcK,qcK,qcK,qcK,qcK,qcK⟩,⟨MB.cs ⟨qcK,qcK,qcK⟩,⟨MB.gs (eI .i64) true [],qcK⟩⟩⟩) j5 (fun _ h=>nomatch (show(none:Option (List Int))=some o5 from h)) ?_;rintro n ⟨v6,l2⟩ j5;simp only[zbG]at j5;rw[congrFun hT9 (v6,l2)];refine zab ?_;try simp only[rnA,Nat.reduceEqDiff,Nat.reduceLT,zaj]
  cases c1:(decide (v6<(p1.nodes.length:Int)))
  ·rw[c1,cond_false]at j5;try simp only[rnA]
   replace j5:=qab j5; subst j5;exact lfj hT5 rfl (wm0 [.d,.d,.k] ⟨rfl,⟨rfl,⟨MB.gs (eI .i64) true l2,qcK⟩⟩⟩)
  rw[c1,cond_true]at j5;obtain⟨q2,g3,j5⟩:=bind_some j5;try simp only[rnA,Nat.reduceEqDiff,Nat.reduceLT,(zc9 g3).1,(zc9 g3).2]
  obtain⟨o10,j10,j5⟩:=bind_some j5;obtain⟨T10,hT10⟩:=mkT fun a:Int=>⟨39,[(2,(.ptr 0 0)),(3,(.ptr 1 0)),(5,(.sl 2 0 1 l2.length none l2.length)),(6,(dI v6)),(7,(dI a))],[.cells [(dU8 p0.which),(dU8 p0.v.a0),(dU8 p0.v.a1),(dU8 p0.v.a2),(dU8 p0.v.a3),(dU8 p0.v.a4),(dU8 p0.v.a5),(dU8 p0.v.a6),(dU8 p0.v.a7)],.cells [(dI p1.grain),(fzE false zaa p1.nodes)],.grow 1 (l2.map ((eI .i64).c true))]⟩
  refine EvL.jn T10 (fun a=>a=o10) ?_ ?_
  ·refine zab ?_;try simp only[rnA,Nat.reduceEqDiff]
   cases c4:((zlo .u8 q2 1)== 1)
   ·rw[c4,cond_false]at j10;try simp only[rnA]
    replace j10:=qab j10; subst j10;exact lfj hT10 rfl (wm0 [.k,.k,.k] ⟨MB.cs ⟨qcK,qcK,qcK,qcK,qcK,qcK,qcK,qcK,qcK,qcK⟩,⟨MB.cs ⟨qcK,qcK,qcK⟩,⟨MB.gs (eI .i64) true l2,qcK⟩⟩⟩)
   rw[c4,cond_true]at j10;obtain⟨x5,g6,j10⟩:=bind_some j10;obtain⟨x7,g8,j10⟩:=bind_some j10;obtain⟨q9,g10,j10⟩:=bind_some j10;try simp only[rnA,Nat.reduceEqDiff,Nat.reduceLT,Nat.reduceAdd,Nat.reduceLeDiff,zac,zbs g6,(show v6<((8:Nat):Int)from zbN g6),Nat.mul_one,(show [(dU8 p0.which),(dU8 p0.v.a0),(dU8 p0.v.a1),(dU8 p0.v.a2),(dU8 p0.v.a3),(dU8 p0.v.a4),(dU8 p0.v.a5),(dU8 p0.v.a6),(dU8 p0.v.a7)][1+v6.toNat]? = some (.lit (.int .u8 x5))from ztD (a:=1) (i:=v6) g6 (fun x=>(.lit (.int .u8 x):D)) rfl),zai (n:=3) (e:=zaa) rfl g8,zfL g10,zgG g10]
   replace j10:=qab j10; subst j10;exact lfj hT10 rfl (wm0 [.k,.k,.k] ⟨MB.cs ⟨qcK,qcK,qcK,qcK,qcK,qcK,qcK,qcK,qcK,qcK⟩,⟨MB.cs ⟨qcK,qcK,qcK⟩,⟨MB.gs (eI .i64) true l2,qcK⟩⟩⟩)
  rintro v7 rfl;rw[congrFun hT10 v7];refine zab ?_;obtain⟨y11,g12,j5⟩:=bind_some j5;try simp only[rnA,Nat.reduceEqDiff,Nat.reduceLT,Nat.reduceAdd,Nat.reduceLeDiff,zcL g12,(show l2.length+1=y11.length from zbU g12),(show l2.map ((eI .i64).c true)++ [[(dI v7)]]=y11.map ((eI .i64).c true)from zcr g12 ((eI .i64).c true))]
  exact⟨((w64 (v6+1)),y11),j5,by rw[hT9]; exact wm0 [.k,.k,.k] ⟨MB.cs ⟨qcK,qcK,qcK,qcK,qcK,qcK,qcK,qcK,qcK,qcK⟩,⟨MB.cs ⟨qcK,qcK,qcK⟩,⟨MB.gs (eI .i64) true y11,qcK⟩⟩⟩⟩
 rintro l2 rfl;rw[congrFun hT5 l2];refine zab ?_;try simp only[rnA,Nat.reduceEqDiff,Nat.reduceLT]
 replace h:=qab h; subst h;exact zbe.ret rfl (zal (e:=(eI .i64)) (t:=true) rfl (.inr rfl) rfl rfl (fun k h=>nomatch h) (fun _=>rfl))
end Go.Dc
