/-
 What net_network_filled computes. Conditions: none.
-/
import Derived.Test.YtbjogdohfhdaiaaEkJ3
set_option linter.unusedSimpArgs false
set_option linter.unusedVariables false
set_option maxRecDepth 100000
set_option maxHeartbeats 4000000
namespace Go.Dc
open Go Go.Mx Go.Lx Go.Proofs
def zbO(p1:S_api_Node)(p0:S_net_network):Nat→Int→Int→Option Int
 | 0,_,_=>none
 | n+1,v5,v16=>(
bif (decide (v16<(p1.parents.length:Int)))then(
(za6 p1.parents v16).bind fun x2=>
(za6 p0.cards x2).bind fun x4=>
zbO p1 p0 n (w64 (v5 * x4)) (w64 (v16+1)))
else(
some v5))
def zbS(y11:(Int×(List Int))):Nat→Int→Int→Option (Out Int Bool)
 | 0,_,_=>none
 | n+1,v10,v42=>(
bif (decide (v42<(y11.2.length:Int)))then(
(za6 y11.2 v42).bind fun x13=>
((bif (decide (x13<0))then(
some true)
else(
some (decide (v10<x13))):Option Bool)).bind fun v52=>
bif v52 then(
some (.ret false))
else(
zbS y11 n (w64 (v10 - x13)) (w64 (v42+1))))
else(
some (.go v10)))
def zbw(p0:S_net_network)(p1:S_api_Node):List (Int×(List Int))→Option (Out Unit Bool)
 | []=>some (.go ())
 | y11 :: ys=>(
((zbS y11 ((y11.2.length:Int) - 0+2:Int).toNat p0.net.grain 0:Option (Out Int Bool))).bind fun o=>match o with
| .go v10=>(
((bif ((y11.2.length:Int)== p1.card)then(
some (!(v10 == 0)))
else(
some true):Option Bool)).bind fun v65=>
bif v65 then(
some (.ret false))
else(
zbw p0 p1 ys))
| .ret r=>some (.ret r))
def zcK(p0:S_net_network)(p1:S_api_Node):Option Bool:=
((zbO p1 p0 ((p1.parents.length:Int) - 0+2:Int).toNat 1 0:Option Int)).bind fun v5=>
bif ((p1.rows.length:Int)== v5)then(
(zhj p1).bind fun r7=>
(ziE r7.rows).bind fun u9=>
((zbw p0 p1 (zqa r7.rows):Option (Out Unit Bool))).bind fun o=>match o with
| .go _=>(
some true)
| .ret r=>some r)
else(
some false)
theorem zfT{p0:S_net_network}{p1:S_api_Node}{r:Bool}(h:zcK p0 p1=some r):Lx.Fn mC 133 [(.agg [(dI p0.net.grain),(fzE false zac p0.net.nodes),(fzE false (eI .i64) p0.cards),(fzE false (eI .u64) p0.sets),(fzE false (eI .i64) p0.order)]),(.agg [(dI p1.card),(fzE false (eI .i64) p1.parents),(fzE false (eL (eI .i64)) p1.rows)])] (dB r):=by
 refine fnO (by conv=>lhs; cbv) ?_;unfold zcK at h;refine zaa ?_;try simp only[rnA,Nat.reduceEqDiff,Nat.reduceLT,Nat.reduceAdd,reduceCtorEq,zam]
 obtain⟨o1,j1,h⟩:=bind_some h;obtain⟨T1,hT1⟩:=mkT fun a:Int=>⟨66,[(2,(.ptr 0 0)),(3,(.ptr 1 0)),(4,(.ptr 2 0)),(5,(dI a))],[.cells [(dI p0.net.grain),(fzE false zac p0.net.nodes),(fzE false (eI .i64) p0.cards),(fzE false (eI .u64) p0.sets),(fzE false (eI .i64) p0.order)],.cells [(dI p1.card),(fzE false (eI .i64) p1.parents),(fzE false (eL (eI .i64)) p1.rows)],.cells [(dB false)]]⟩
 refine EvL.jn T1 (fun a=>a=o1) ?_ ?_
 ·refine zaa ?_;simp only[rnA];obtain⟨T2,hT2⟩:=mkT fun a:(Int×Int)=>⟨66,[(2,(.ptr 0 0)),(3,(.ptr 1 0)),(4,(.ptr 2 0)),(5,(dI a.1)),(14,(fzE false (eI .i64) p1.parents)),(15,(dI (p1.parents.length:Int))),(16,(dI a.2))],[.cells [(dI p0.net.grain),(fzE false zac p0.net.nodes),(fzE false (eI .i64) p0.cards),(fzE false (eI .u64) p0.sets),(fzE false (eI .i64) p0.order)],.cells [(dI p1.card),(fzE false (eI .i64) p1.parents),(fzE false (eL (eI .i64)) p1.rows)],.cells [(dB false)]]⟩
  refine EvL.rounds (α:=(Int×Int)) T2 (fun n a=>zbO p1 p0 n a.1 a.2=some o1) ((p1.parents.length:Int) - 0+2:Int).toNat (1,0) (by rw[hT2]; exact wm0 [.k,.k,.k] ⟨MB.cs ⟨qb1,qb1,qb1,qb1,qb1,qb1⟩,⟨MB.cs ⟨qb1,qb1,qb1,qb1⟩,⟨MB.cs ⟨qb1,qb1⟩,qb1⟩⟩⟩) j1 (fun _ h=>nomatch (show(none:Option Int)=some o1 from h)) ?_;rintro n ⟨v5,v16⟩ j1;simp only[zbO]at j1;rw[congrFun hT2 (v5,v16)];refine zaa ?_;try simp only[rnA,Nat.reduceEqDiff,Nat.reduceLT]
  cases c1:(decide (v16<(p1.parents.length:Int)))
  ·rw[c1,cond_false]at j1;try simp only[rnA]
   replace j1:=qaa j1; subst j1;exact lfj hT1 rfl (wm0 [.k,.k,.k] ⟨MB.cs ⟨qb1,qb1,qb1,qb1,qb1,qb1⟩,⟨MB.cs ⟨qb1,qb1,qb1,qb1⟩,⟨MB.cs ⟨qb1,qb1⟩,qb1⟩⟩⟩)
  rw[c1,cond_true]at j1;obtain⟨x2,g3,j1⟩:=bind_some j1;obtain⟨x4,g5,j1⟩:=bind_some j1;try simp only[rnA,Nat.reduceEqDiff,Nat.reduceLT,zak (n:=1) (e:=(eI .i64)) rfl g3,zak (n:=1) (e:=(eI .i64)) rfl g5]
  exact⟨((w64 (v5 * x4)),(w64 (v16+1))),j1,by rw[hT2]; exact wm0 [.k,.k,.k] ⟨MB.cs ⟨qb1,qb1,qb1,qb1,qb1,qb1⟩,⟨MB.cs ⟨qb1,qb1,qb1,qb1⟩,⟨MB.cs ⟨qb1,qb1⟩,qb1⟩⟩⟩⟩
 rintro v5 rfl;rw[congrFun hT1 v5];refine zaa ?_;try simp only[rnA,Nat.reduceEqDiff,Nat.reduceLT,zam]
 cases c6:((p1.rows.length:Int)== v5)
 ·rw[c6,cond_false]at h;try simp only[rnA,Nat.reduceEqDiff,Nat.reduceLeDiff]
  replace h:=qaa h; subst h;exact za0.ret rfl (.lit _)
 rw[c6,cond_true]at h;obtain⟨r7,g8,h⟩:=bind_some h;try simp only[rnA,Nat.reduceEqDiff,Nat.reduceLT,Nat.reduceAdd,Nat.reduceLeDiff]
 refine EvL.fnS (zig g8) rfl rfl (.cons (Mzs.agg (.cons (.lit _) (.cons (zal _ _ (fun h=>by cases h<;>contradiction)) (.cons (zal _ _ (fun h=>by cases h<;>contradiction)) .nil)))) .nil) ⟨⟨qb1,(zae _ _),(zae _ _),qb1⟩,qb1⟩ ⟨qb1,⟨⟨rfl,zac.fr _⟩,qb1⟩⟩ ?_;try simp only[rnA,Nat.reduceLT,zat]
 obtain⟨u9,g10,h⟩:=bind_some h;obtain⟨o12,j12,h⟩:=bind_some h;obtain⟨T12,hT12⟩:∃ T:Unit→List LB,T=(fun a=>[.cells [(dI p0.net.grain),(fzE false zac p0.net.nodes),(fzE false (eI .i64) p0.cards),(fzE false (eI .u64) p0.sets),(fzE false (eI .i64) p0.order)],.cells [(dI p1.card),(fzE false (eI .i64) p1.parents),(fzE false (eL (eI .i64)) p1.rows)],.cells [(dB false)]]):=⟨_,rfl⟩;refine EvL.zeH (S':=⟨66,[(2,(.ptr 0 0)),(3,(.ptr 1 0)),(4,(.ptr 2 0)),(34,(.clo 169 [] [(.fptr false (zac.c false r7))]))],T12 ()⟩) (by rw[hT12]; exact wm0 [.k,.k,.k] ⟨MB.cs ⟨qb1,qb1,qb1,qb1,qb1,qb1⟩,⟨MB.cs ⟨qb1,qb1,qb1,qb1⟩,⟨MB.cs ⟨qb1,qb1⟩,qb1⟩⟩⟩) ?_;refine EvL.ziJ (n0:=3) (zhy r7 g10) rfl (bm:=.block 3 (.seq (.reg false false [⟨some 37,.fld 0 (.s 2),none⟩,⟨some 38,.fld 0 (.s 37),none⟩,⟨some 39,.load none (.s 38),none⟩,⟨some 10,.mov (.s 39),none⟩]) (.seq (.seq (.reg false false [⟨some 40,.mov (.s 9),none⟩,⟨some 41,.len (.s 40),none⟩,⟨some 42,.mov (.c (.int .i64 0)),none⟩]) (.scope (.block 4 (.loop (.seq (.reg false false [⟨some 43,.bin .lss (.s 42) (.s 41),none⟩]) (.seq (.cond (.s 43) (.skip) (.exit 4)) (.seq (.block 5 (.seq (.reg false false [⟨some 44,.idxS 1 (.s 40) (.s 42),none⟩,⟨some 45,.load none (.s 44),none⟩,⟨some 12,.mov (.s 45),none⟩]) (.seq (.seq (.scope (.reg false false [⟨some 46,.mov (.s 12),none⟩,⟨some 47,.bin .lss (.s 46) (.c (.int .i64 0)),none⟩,⟨some 48,.mov (.s 47),none⟩,⟨some 49,.mov (.s 12),some (48,false)⟩,⟨some 50,.mov (.s 10),some (48,false)⟩,⟨some 51,.bin .gtr (.s 49) (.s 50),some (48,false)⟩,⟨some 52,.pick (.s 48) (.c (.bool true)) (.s 51),none⟩])) (.cond (.s 52) (.seq (.reg false false [⟨none,.store 1 (.s 4) (.c (.bool false)),none⟩]) (.ret)) (.skip))) (.reg false false [⟨some 53,.mov (.s 10),none⟩,⟨some 54,.mov (.s 12),none⟩,⟨some 55,.bin .sub (.s 53) (.s 54),none⟩,⟨some 10,.mov (.s 55),none⟩])))) (.reg false false [⟨some 56,.bin .add (.s 42) (.c (.int .i64 1)),none⟩,⟨some 42,.mov (.s 56),none⟩])))))))) (.seq (.scope (.reg false false [⟨some 57,.mov (.s 9),none⟩,⟨some 58,.len (.s 57),none⟩,⟨some 59,.fld 0 (.s 3),none⟩,⟨some 60,.load none (.s 59),none⟩,⟨some 61,.bin .neq (.s 58) (.s 60),none⟩,⟨some 62,.mov (.s 61),none⟩,⟨some 63,.mov (.s 10),some (62,false)⟩,⟨some 64,.bin .neq (.s 63) (.c (.int .i64 0)),some (62,false)⟩,⟨some 65,.pick (.s 62) (.c (.bool true)) (.s 64),none⟩])) (.cond (.s 65) (.seq (.reg false false [⟨none,.store 1 (.s 4) (.c (.bool false)),none⟩]) (.ret)) (.skip)))))) rfl T12 (fun i a=>zbw p0 p1 ((zqa r7.rows).drop i)=some o12) (fun x L1=>match x with | .normal=>∃ a,o12=.go a∧L1=T12 a | .ret=>L1.length=3∧zcH (3+1) L1∧(za0 [.cell 4 none] ((dB r))) .ret ⟨66,[(2,(.ptr 0 0)),(3,(.ptr 1 0)),(4,(.ptr 2 0)),(34,(.clo 169 [] [(.fptr false (zac.c false r7))]))],L1 ++ [.lost]⟩| _=>False) () ?_ (qbn _) ?_ ?_ ?_ (fun d L1 hx=>hx.elim) ?_ ?_ ?_ ?_ ?_ ?_
 ·intro a; rw[hT12]; rfl
 ·exact⟨(qac rfl),(qac rfl),(qac rfl),⟨qb1,⟨qb1,qb1⟩⟩,qb1⟩
 ·intro a; rw[hT12]; exact⟨⟨qb1,qb1,qb1,qb1,qb1,qb1⟩,⟨qb1,qb1,qb1,qb1⟩,⟨qb1,qb1⟩,qb1⟩
 ·intro x L1 hx;cases x with
  | normal=>obtain⟨a,_,rfl⟩:=hx; exact⟨by rw[hT12]; rfl,by rw[hT12]; exact⟨⟨qb1,qb1,qb1,qb1,qb1,qb1⟩,⟨qb1,qb1,qb1,qb1⟩,⟨qb1,qb1⟩,qb1⟩⟩
  | ret=>exact⟨hx.1,hx.2.1⟩
  | exit id=>exact hx.elim
  | panic d=>exact hx.elim
 ·exact j12
 ·rintro i ⟨⟩ y11 args G lpF hy hi12 ⟨rfl,rfl⟩ hkin;rw[zes hy]at hi12;simp only[zbw]at hi12;refine⟨_,_,rfl,rfl,?_⟩;rw[congrFun hT12 ()];refine zaa ?_;try simp only[rnA,Nat.reduceEqDiff,Nat.reduceLT,Nat.reduceAdd,zat,zam]
  obtain⟨o16,j16,hi12⟩:=bind_some hi12;obtain⟨T16,hT16⟩:=mkT fun a:Int=>⟨66,[(3,(.ptr 1 0)),(4,(.ptr 2 0)),(9,(fzE false (eI .i64) y11.2)),(10,(dI a))],[.cells [(dI p0.net.grain),(fzE false zac p0.net.nodes),(fzE false (eI .i64) p0.cards),(fzE false (eI .u64) p0.sets),(fzE false (eI .i64) p0.order)],.cells [(dI p1.card),(fzE false (eI .i64) p1.parents),(fzE false (eL (eI .i64)) p1.rows)],.cells [(dB false)],lpF]⟩
  refine EvL.jn T16 (fun a=>o16=.go a) ?_ ?_
  ·refine zaa ?_;simp only[rnA];obtain⟨T19,hT19⟩:=mkT fun a:(Int×Int)=>⟨66,[(3,(.ptr 1 0)),(4,(.ptr 2 0)),(9,(fzE false (eI .i64) y11.2)),(10,(dI a.1)),(40,(fzE false (eI .i64) y11.2)),(41,(dI (y11.2.length:Int))),(42,(dI a.2))],[.cells [(dI p0.net.grain),(fzE false zac p0.net.nodes),(fzE false (eI .i64) p0.cards),(fzE false (eI .u64) p0.sets),(fzE false (eI .i64) p0.order)],.cells [(dI p1.card),(fzE false (eI .i64) p1.parents),(fzE false (eL (eI .i64)) p1.rows)],.cells [(dB false)],lpF]⟩
   refine EvL.rounds (α:=(Int×Int)) T19 (fun n a=>zbS y11 n a.1 a.2=some o16) ((y11.2.length:Int) - 0+2:Int).toNat (p0.net.grain,0) (by rw[hT19]; exact zaV.mK (k0:=4) [.k,.k,.k,.k] rfl rfl (msq (msq (msq (msq (msq (msq (msq trivial))))))) ⟨MB.cs ⟨qb1,qb1,qb1,qb1,qb1,qb1⟩,⟨MB.cs ⟨qb1,qb1,qb1,qb1⟩,⟨MB.cs ⟨qb1,qb1⟩,⟨.same (hkin _ (by decide)),qb1⟩⟩⟩⟩) j16 (fun _ h=>nomatch (show(none:Option (Out Int Bool))=some o16 from h)) ?_;rintro n ⟨v10,v42⟩ j16;simp only[zbS]at j16;rw[congrFun hT19 (v10,v42)];refine zaa ?_;try simp only[rnA,Nat.reduceEqDiff,Nat.reduceLT]
   cases c12:(decide (v42<(y11.2.length:Int)))
   ·rw[c12,cond_false]at j16;try simp only[rnA,Nat.reduceEqDiff]
    replace j16:=qaa j16; subst j16;exact⟨_,rfl,by rw[hT16]; exact zaV.mK (k0:=4) [.k,.k,.k,.k] rfl rfl (msq (msq (msq (msq trivial)))) ⟨MB.cs ⟨qb1,qb1,qb1,qb1,qb1,qb1⟩,⟨MB.cs ⟨qb1,qb1,qb1,qb1⟩,⟨MB.cs ⟨qb1,qb1⟩,⟨.same (hkin _ (by decide)),qb1⟩⟩⟩⟩⟩
   rw[c12,cond_true]at j16;obtain⟨x13,g14,j16⟩:=bind_some j16;try simp only[rnA,Nat.reduceEqDiff,Nat.reduceLT,zak (n:=1) (e:=(eI .i64)) rfl g14]
   obtain⟨o20,j20,j16⟩:=bind_some j16;obtain⟨T20,hT20⟩:=mkT fun a:Bool=>⟨66,[(3,(.ptr 1 0)),(4,(.ptr 2 0)),(9,(fzE false (eI .i64) y11.2)),(10,(dI v10)),(12,(dI x13)),(40,(fzE false (eI .i64) y11.2)),(41,(dI (y11.2.length:Int))),(42,(dI v42)),(52,(dB a))],[.cells [(dI p0.net.grain),(fzE false zac p0.net.nodes),(fzE false (eI .i64) p0.cards),(fzE false (eI .u64) p0.sets),(fzE false (eI .i64) p0.order)],.cells [(dI p1.card),(fzE false (eI .i64) p1.parents),(fzE false (eL (eI .i64)) p1.rows)],.cells [(dB false)],lpF]⟩
   refine EvL.jn T20 (fun a=>a=o20) ?_ ?_
   ·refine zaa ?_;try simp only[rnA,Nat.reduceEqDiff,Nat.reduceLT]
    cases c15:(decide (x13<0))
    ·rw[c15,cond_false]at j20;try simp only[rnA,Nat.reduceEqDiff,Nat.reduceLT]
     replace j20:=qaa j20; subst j20;exact⟨_,rfl,by rw[hT20]; exact zaV.mK (k0:=4) [.k,.k,.k,.k] rfl rfl (msq (msq (msq (msq (msq (msq (msq (msq (msq trivial))))))))) ⟨MB.cs ⟨qb1,qb1,qb1,qb1,qb1,qb1⟩,⟨MB.cs ⟨qb1,qb1,qb1,qb1⟩,⟨MB.cs ⟨qb1,qb1⟩,⟨.same (hkin _ (by decide)),qb1⟩⟩⟩⟩⟩
    rw[c15,cond_true]at j20;try simp only[rnA,Nat.reduceEqDiff,Nat.reduceLT]
    replace j20:=qaa j20; subst j20;exact⟨_,rfl,by rw[hT20]; exact zaV.mK (k0:=4) [.k,.k,.k,.k] rfl rfl (msq (msq (msq (msq (msq (msq (msq (msq (msq trivial))))))))) ⟨MB.cs ⟨qb1,qb1,qb1,qb1,qb1,qb1⟩,⟨MB.cs ⟨qb1,qb1,qb1,qb1⟩,⟨MB.cs ⟨qb1,qb1⟩,⟨.same (hkin _ (by decide)),qb1⟩⟩⟩⟩⟩
   rintro v52 rfl;rw[congrFun hT20 v52];refine zaa ?_;try simp only[rnA,Nat.reduceEqDiff]
   cases c16:v52
   ·rw[c16,cond_false]at j16;try simp only[rnA,Nat.reduceEqDiff,Nat.reduceLT]
    exact⟨((w64 (v10 - x13)),(w64 (v42+1))),j16,by rw[hT19]; exact zaV.mK (k0:=4) [.k,.k,.k,.k] rfl rfl (msq (msq (msq (msq (msq (msq (msq trivial))))))) ⟨MB.cs ⟨qb1,qb1,qb1,qb1,qb1,qb1⟩,⟨MB.cs ⟨qb1,qb1,qb1,qb1⟩,⟨MB.cs ⟨qb1,qb1⟩,⟨.same (hkin _ (by decide)),qb1⟩⟩⟩⟩⟩
   rw[c16,cond_true]at j16;try simp only[rnA,Nat.reduceEqDiff,Nat.reduceLeDiff]
   replace j16:=qaa j16; subst j16;dsimp only at hi12;replace hi12:=qaa hi12; subst hi12;dsimp only at h;replace h:=qaa h; subst h;exact⟨[.cells [(dI p0.net.grain),(fzE false zac p0.net.nodes),(fzE false (eI .i64) p0.cards),(fzE false (eI .u64) p0.sets),(fzE false (eI .i64) p0.order)],.cells [(dI p1.card),(fzE false (eI .i64) p1.parents),(fzE false (eL (eI .i64)) p1.rows)],.cells [(dB false)]],rfl,zaV.mK [.k,.k,.k,.k] rfl rfl qb1 ⟨MB.cs ⟨qb1,qb1,qb1,qb1,qb1,qb1⟩,⟨MB.cs ⟨qb1,qb1,qb1,qb1⟩,⟨MB.cs ⟨qb1,qb1⟩,⟨.same (hkin _ (by decide)),qb1⟩⟩⟩⟩,rfl,⟨⟨qb1,qb1,qb1,qb1,qb1,qb1⟩,⟨qb1,qb1,qb1,qb1⟩,⟨qb1,qb1⟩,qb1⟩,za0.ret rfl (.lit _)⟩
  rintro v10 rfl;dsimp only at hi12;rw[congrFun hT16 v10];refine zaa ?_;try simp only[rnA]
  obtain⟨o21,j21,hi12⟩:=bind_some hi12;obtain⟨T21,hT21⟩:=mkT fun a:Bool=>⟨66,[(4,(.ptr 2 0)),(65,(dB a))],[.cells [(dI p0.net.grain),(fzE false zac p0.net.nodes),(fzE false (eI .i64) p0.cards),(fzE false (eI .u64) p0.sets),(fzE false (eI .i64) p0.order)],.cells [(dI p1.card),(fzE false (eI .i64) p1.parents),(fzE false (eL (eI .i64)) p1.rows)],.cells [(dB false)],lpF]⟩
  refine EvL.jn T21 (fun a=>a=o21) ?_ ?_
  ·refine zaa ?_;try simp only[rnA,Nat.reduceEqDiff,Nat.reduceLT,zam]
   cases c17:((y11.2.length:Int)== p1.card)
   ·rw[c17,cond_false]at j21;try simp only[rnA,Nat.reduceEqDiff,Nat.reduceLT]
    replace j21:=qaa j21; subst j21;exact⟨_,rfl,by rw[hT21]; exact zaV.mK (k0:=4) [.k,.k,.k,.k] rfl rfl (msq (msq trivial)) ⟨MB.cs ⟨qb1,qb1,qb1,qb1,qb1,qb1⟩,⟨MB.cs ⟨qb1,qb1,qb1,qb1⟩,⟨MB.cs ⟨qb1,qb1⟩,⟨.same (hkin _ (by decide)),qb1⟩⟩⟩⟩⟩
   rw[c17,cond_true]at j21;try simp only[rnA,Nat.reduceEqDiff,Nat.reduceLT]
   replace j21:=qaa j21; subst j21;exact⟨_,rfl,by rw[hT21]; exact zaV.mK (k0:=4) [.k,.k,.k,.k] rfl rfl (msq (msq trivial)) ⟨MB.cs ⟨qb1,qb1,qb1,qb1,qb1,qb1⟩,⟨MB.cs ⟨qb1,qb1,qb1,qb1⟩,⟨MB.cs ⟨qb1,qb1⟩,⟨.same (hkin _ (by decide)),qb1⟩⟩⟩⟩⟩
  rintro v65 rfl;rw[congrFun hT21 v65];refine zaa ?_;try simp only[rnA,Nat.reduceEqDiff]
  cases c18:v65
  ·rw[c18,cond_false]at hi12;try simp only[rnA]
   exact⟨T12 (),by rw[hT12]; rfl,by rw[hT12]; exact zaV.mK [.k,.k,.k,.k] rfl rfl qb1 ⟨MB.cs ⟨qb1,qb1,qb1,qb1,qb1,qb1⟩,⟨MB.cs ⟨qb1,qb1,qb1,qb1⟩,⟨MB.cs ⟨qb1,qb1⟩,⟨.same (hkin _ (by decide)),qb1⟩⟩⟩⟩,(),hi12,rfl⟩
  rw[c18,cond_true]at hi12;try simp only[rnA,Nat.reduceEqDiff,Nat.reduceLeDiff]
  replace hi12:=qaa hi12; subst hi12;dsimp only at h;replace h:=qaa h; subst h;exact⟨[.cells [(dI p0.net.grain),(fzE false zac p0.net.nodes),(fzE false (eI .i64) p0.cards),(fzE false (eI .u64) p0.sets),(fzE false (eI .i64) p0.order)],.cells [(dI p1.card),(fzE false (eI .i64) p1.parents),(fzE false (eL (eI .i64)) p1.rows)],.cells [(dB false)]],rfl,zaV.mK [.k,.k,.k,.k] rfl rfl qb1 ⟨MB.cs ⟨qb1,qb1,qb1,qb1,qb1,qb1⟩,⟨MB.cs ⟨qb1,qb1,qb1,qb1⟩,⟨MB.cs ⟨qb1,qb1⟩,⟨.same (hkin _ (by decide)),qb1⟩⟩⟩⟩,rfl,⟨⟨qb1,qb1,qb1,qb1,qb1,qb1⟩,⟨qb1,qb1,qb1,qb1⟩,⟨qb1,qb1⟩,qb1⟩,za0.ret rfl (.lit _)⟩
 ·rintro⟨⟩ hi12;rw[qbi]at hi12;simp only[zbw]at hi12;exact⟨(),(qaa hi12).symm,rfl⟩
 ·rintro _ ⟨⟨⟩,rfl,rfl⟩;dsimp only at h;rw[congrFun hT12 ()];refine zaa ?_;try simp only[rnA,Nat.reduceEqDiff,Nat.reduceLeDiff,zat]
  replace h:=qaa h; subst h;exact za0.ret rfl (.lit _)
 ·intro id L1 hx; exact hx.elim
 intro L1 hx; exact hx.2.2
def zd1(p0:(List Int))(v5:Int)(C1:Nat):Nat→Int→(List Int)→Option (Out3 Unit (Int×(List Int)) ((List Int)×Bool))
 | 0,_,_=>none
 | n+1,v18,l0'=>(
bif (decide (v18<(p0.length:Int)))then(
(za6 p0 v18).bind fun x5=>
(((zl2 .u64 v5 v18).bind fun q7=>
bif ((zi0 .u64 q7 1)== 0)then(
some (((ztb .u64 x5 v5)== 0),l0'))
else(
some (false,l0')):Option ((Bool×(List Int))))).bind fun o=>match o with
|(v33,l0'')=>(
bif v33 then(
(znG C1 l0'' [v18]).bind fun y11=>
(znt .u64 1 v18).bind fun q13=>
some (.brk ((orI .u64 v5 q13),y11)))
else(
zd1 p0 v5 C1 n (w64 (v18+1)) l0'')))
else(
some (.go ())))
def zd6(p0:(List Int))(C1:Nat):Nat→Int→(List Int)→Option (Out (List Int) ((List Int)×Bool))
 | 0,_,_=>none
 | n+1,v5,l0=>(
bif (decide (((l0.length:Nat):Int)<(p0.length:Int)))then(
((zd1 p0 v5 C1 ((p0.length:Int) - 0+2:Int).toNat 0 l0:Option (Out3 Unit (Int×(List Int)) ((List Int)×Bool)))).bind fun o=>match o with
| .go _=>(
some (.ret ([],false)))
| .brk (v5',l0')=>(
zd6 p0 C1 n v5' l0')
| .ret r=>some (.ret r))
else(
some (.go l0)))
def zfN(p0:(List Int)):Option ((List Int)×Bool):=
(zta 8 (p0.length:Int)).bind fun C1=>
((zd6 p0 C1 ((p0.length:Int) - ((([]:List Int).length:Nat):Int)+2:Int).toNat 0 ([]:List Int):Option (Out (List Int) ((List Int)×Bool)))).bind fun o=>match o with
| .go l0=>(
some (l0,true))
| .ret r=>some r
theorem zj8{p0:(List Int)}{r:((List Int)×Bool)}(h:zfN p0=some r):Lx.Fn mC 134 [(fzE false (eI .u64) p0)] (.tup [(fzE true (eI .i64) r.1),(dB r.2)]):=by
 refine fnO (by conv=>lhs; cbv) ?_;unfold zfN at h;refine zaa ?_;try simp only[rnA,Nat.reduceLT]
 refine EvL.scope (zaa ?_);obtain⟨C1,g2,h⟩:=bind_some h;try simp only[rnA,Nat.reduceEqDiff,Nat.reduceLT,reduceCtorEq,zam,(zkh g2).1.1,(zkh g2).1.2,(zkh g2).2,qa1,Int.toNat_zero,(show List.replicate C1 [(dI 0)]=(room [] C1 0).map ((eI .i64).c true)from zp3 g2 0 ((eI .i64).c true))]
 obtain⟨o84,j84,h⟩:=bind_some h;obtain⟨T84,hT84⟩:=mkT fun a:(List Int)=>⟨44,[(4,(.sl 0 0 1 a.length (some C1) C1))],[.els 1 ((room a C1 0).map ((eI .i64).c true))]⟩
 refine EvL.jn T84 (fun a=>o84=.go a∧a.length≤C1) ?_ ?_
 ·refine zaa ?_;simp only[rnA];obtain⟨T103,hT103⟩:=mkT fun a:(Int×(List Int))=>⟨44,[(0,(fzE false (eI .u64) p0)),(4,(.sl 0 0 1 a.2.length (some C1) C1)),(5,(dU a.1))],[.els 1 ((room a.2 C1 0).map ((eI .i64).c true))]⟩
  refine EvL.rounds (α:=(Int×(List Int))) T103 (fun n a=>zd6 p0 C1 n a.1 a.2=some o84∧a.2.length≤C1) ((p0.length:Int) - ((([]:List Int).length:Nat):Int)+2:Int).toNat (0,([]:List Int)) (by rw[hT103]; exact wm0 [.k] ⟨MB.es (eI .i64) true (room ([]:List Int) C1 0),qb1⟩) ⟨j84,(qbn _)⟩ (fun _ h=>nomatch (show(none:Option (Out (List Int) ((List Int)×Bool)))=some o84 from h.1)) ?_;rintro n ⟨v5,l0⟩ ⟨j84,el0⟩;simp only[zd6]at j84;rw[congrFun hT103 (v5,l0)];refine zaa ?_;try simp only[rnA,Nat.reduceEqDiff,Nat.reduceLT,reduceCtorEq,zhT el0 0,zam]
  cases c3:(decide (((l0.length:Nat):Int)<(p0.length:Int)))
  ·rw[c3,cond_false]at j84;try simp only[rnA]
   replace j84:=qaa j84; subst j84;exact⟨_,⟨rfl,el0⟩,by rw[hT84]; exact wm0 [.k] ⟨MB.es (eI .i64) true (room l0 C1 0),qb1⟩⟩
  rw[c3,cond_true]at j84;try simp only[rnA,Nat.reduceEqDiff,Nat.reduceLT,reduceCtorEq,zam]
  obtain⟨o108,j108,j84⟩:=bind_some j84;obtain⟨T108,hT108⟩:=mkT fun a:Unit=>⟨44,[],[]⟩
  obtain⟨TB108,hTB108⟩:∃ T:(Int×(List Int))→LSt,T=(fun a=>⟨44,[(0,(fzE false (eI .u64) p0)),(4,(.sl 0 0 1 a.2.length (some C1) C1)),(5,(dU a.1))],[.els 1 ((room a.2 C1 0).map ((eI .i64).c true))]⟩):=⟨_,rfl⟩;refine EvL.jn2 (id:=1) T108 (fun a=>o108=.go a) TB108 (fun a=>o108=.brk a∧a.2.length≤C1) (fun id S hx=>by first | (rcases hx with⟨hx | hx,_⟩<;> cases hx)| exact hx.elim) ?_ ?_ ?_
  ·refine zaa ?_;simp only[rnA];obtain⟨T111,hT111⟩:=mkT fun a:(Int×(List Int))=>⟨44,[(0,(fzE false (eI .u64) p0)),(4,(.sl 0 0 1 a.2.length (some C1) C1)),(5,(dU v5)),(16,(fzE false (eI .u64) p0)),(17,(dI (p0.length:Int))),(18,(dI a.1))],[.els 1 ((room a.2 C1 0).map ((eI .i64).c true))]⟩
   refine EvL.rounds (α:=(Int×(List Int))) T111 (fun n a=>zd1 p0 v5 C1 n a.1 a.2=some o108∧a.2.length≤C1) ((p0.length:Int) - 0+2:Int).toNat (0,l0) (by rw[hT111]; exact wm0 [.k] ⟨MB.es (eI .i64) true (room l0 C1 0),qb1⟩) ⟨j108,el0⟩ (fun _ h=>nomatch (show(none:Option (Out3 Unit (Int×(List Int)) ((List Int)×Bool)))=some o108 from h.1)) ?_;rintro n ⟨v18,l0'⟩ ⟨j108,el0'⟩;simp only[zd1]at j108;rw[congrFun hT111 (v18,l0')];refine zaa ?_;try simp only[rnA,Nat.reduceEqDiff,Nat.reduceLT,reduceCtorEq]
   cases c4:(decide (v18<(p0.length:Int)))
   ·rw[c4,cond_false]at j108;try simp only[rnA,Nat.reduceEqDiff]
    replace j108:=qaa j108; subst j108;exact lfj hT108 rfl (wm0 [] (by exact trivial))
   rw[c4,cond_true]at j108;obtain⟨x5,g6,j108⟩:=bind_some j108;try simp only[rnA,Nat.reduceEqDiff,Nat.reduceLT,reduceCtorEq,zak (n:=1) (e:=(eI .u64)) rfl g6]
   obtain⟨o112,j112,j108⟩:=bind_some j108;obtain⟨T112,hT112⟩:=mkT fun a:(Bool×(List Int))=>⟨44,[(0,(fzE false (eI .u64) p0)),(4,(.sl 0 0 1 a.2.length (some C1) C1)),(5,(dU v5)),(6,(dI v18)),(16,(fzE false (eI .u64) p0)),(17,(dI (p0.length:Int))),(18,(dI v18)),(33,(dB a.1))],[.els 1 ((room a.2 C1 0).map ((eI .i64).c true))]⟩
   refine EvL.jn T112 (fun a=>a=o112∧a.2.length≤C1) ?_ ?_
   ·refine zaa ?_;obtain⟨q7,g8,j112⟩:=bind_some j112;try simp only[rnA,Nat.reduceEqDiff,Nat.reduceLT,reduceCtorEq,(zaQ g8).1,(zaQ g8).2]
    cases c9:((zi0 .u64 q7 1)== 0)
    ·rw[c9,cond_false]at j112;try simp only[rnA,Nat.reduceEqDiff,Nat.reduceLT,reduceCtorEq]
     replace j112:=qaa j112; subst j112;exact⟨_,⟨rfl,el0'⟩,by rw[hT112]; exact wm0 [.k] ⟨MB.es (eI .i64) true (room l0' C1 0),qb1⟩⟩
    rw[c9,cond_true]at j112;try simp only[rnA,Nat.reduceEqDiff,Nat.reduceLT,reduceCtorEq]
    replace j112:=qaa j112; subst j112;exact⟨_,⟨rfl,el0'⟩,by rw[hT112]; exact wm0 [.k] ⟨MB.es (eI .i64) true (room l0' C1 0),qb1⟩⟩
   rintro⟨v33,l0''⟩ ⟨rfl,el0''⟩;dsimp only at j108;rw[congrFun hT112 (v33,l0'')];refine zaa ?_;try simp only[rnA,Nat.reduceEqDiff,reduceCtorEq]
   cases c10:v33
   ·rw[c10,cond_false]at j108;try simp only[rnA,Nat.reduceEqDiff,Nat.reduceLT,reduceCtorEq]
    exact⟨((w64 (v18+1)),l0''),⟨j108,el0''⟩,by rw[hT111]; exact wm0 [.k] ⟨MB.es (eI .i64) true (room l0'' C1 0),qb1⟩⟩
   rw[c10,cond_true]at j108;obtain⟨y11,g12,j108⟩:=bind_some j108;obtain⟨q13,g14,j108⟩:=bind_some j108;try simp only[rnA,Nat.reduceEqDiff,Nat.reduceLT,Nat.reduceAdd,Nat.reduceLeDiff,reduceCtorEq,zhT el0'' 0,(show l0''.length+1=y11.length from zkR g12),znc g12,(show((room l0'' C1 0).map ((eI .i64).c true)).take l0''.length ++ [[(dI v18)]]++ ((room l0'' C1 0).map ((eI .i64).c true)).drop y11.length=(room y11 C1 0).map ((eI .i64).c true)from zom g12 0 ((eI .i64).c true)),(za5 g14).1,(za5 g14).2]
   replace j108:=qaa j108; subst j108;exact⟨_,⟨rfl,(znc g12)⟩,by rw[hTB108]; exact wm0 [.k] ⟨MB.es (eI .i64) true (room y11 C1 0),qb1⟩⟩
  ·rintro⟨⟩ rfl;dsimp only at j84;rw[congrFun hT108 ()];refine zaa ?_;try simp only[rnA,Nat.reduceLT]
   replace j84:=qaa j84; subst j84;dsimp only at h;replace h:=qaa h; subst h;exact za0.ret rfl (Snp.zb7 (.cons (zah (eI .i64)) (.cons (.lit _) .nil)))
  rintro⟨v5',l0'⟩ ⟨rfl,el0'⟩;dsimp only at j84;rw[congrFun hTB108 (v5',l0')];refine zaa ?_;try simp only[rnA,reduceCtorEq]
  exact⟨(v5',l0'),⟨j84,el0'⟩,by rw[hT103]; exact wm0 [.k] ⟨MB.es (eI .i64) true (room l0' C1 0),qb1⟩⟩
 rintro l0 ⟨rfl,el0⟩;dsimp only at h;rw[congrFun hT84 l0];refine zaa ?_;try simp only[rnA,Nat.reduceEqDiff,Nat.reduceLT]
 replace h:=qaa h; subst h;exact za0.ret rfl (Snp.zb7 (.cons (zqd (e:=(eI .i64)) (t:=true) (z:=0) rfl rfl el0 (fun _=>rfl)) (.cons (.lit _) .nil)))
def zfc(p0:S_api_Net):Nat→Int→Int→(List Int)→Option (Out (Int×(List Int)) (S_net_network×Int))
 | 0,_,_,_=>none
 | n+1,v5,v50,l2=>(
bif (decide (v50<(p0.nodes.length:Int)))then(
(za6 p0.nodes v50).bind fun x8=>
((bif (decide (x8.card<1))then(
some true)
else(
some (decide (4<x8.card))):Option Bool)).bind fun v62=>
bif v62 then(
some (.ret ((S_net_network.mk (S_api_Net.mk 0 []) [] [] []),50)))
else(
(za6 l2 v50).bind fun x12=>
(zgN l2 v50 x8.card).bind fun y14=>
zfc p0 n (w64 (v5 * x8.card)) (w64 (v50+1)) y14))
else(
some (.go (v5,l2))))
def zfg(x18:S_api_Node)(p0:S_api_Net)(v82:Int):Nat→Int→Int→(List Int)→Option (Out (List Int) (S_net_network×Int))
 | 0,_,_,_=>none
 | n+1,v10,v90,l3'=>(
bif (decide (v90<(x18.parents.length:Int)))then(
(za6 x18.parents v90).bind fun x21=>
((bif (decide (x21≤v10))then(
some true)
else(
bif (decide ((p0.nodes.length:Int)≤x21))then(
some true)
else(
some (x21 == v82))):Option Bool)).bind fun v109=>
bif v109 then(
some (.ret ((S_net_network.mk (S_api_Net.mk 0 []) [] [] []),50)))
else(
(za6 l3' v82).bind fun x26=>
(znt .u64 1 x21).bind fun q28=>
(zgN l3' v82 (orI .u64 x26 q28)).bind fun y30=>
zfg x18 p0 v82 n x21 (w64 (v90+1)) y30))
else(
some (.go l3')))
def zfk(p0:S_api_Net)(l2:(List Int)):Nat→Int→(List Int)→Option (Out (List Int) (S_net_network×Int))
 | 0,_,_=>none
 | n+1,v82,l3=>(
bif (decide (v82<(p0.nodes.length:Int)))then(
(za6 p0.nodes v82).bind fun x18=>
((zfg x18 p0 v82 ((x18.parents.length:Int) - 0+2:Int).toNat (-1) 0 l3:Option (Out (List Int) (S_net_network×Int)))).bind fun o=>match o with
| .go l3'=>(
(zcK (S_net_network.mk p0 l2 l3' []) x18).bind fun r32=>
bif r32 then(
zfk p0 l2 n (w64 (v82+1)) l3')
else(
some (.ret ((S_net_network.mk (S_api_Net.mk 0 []) [] [] []),50))))
| .ret r=>some (.ret r))
else(
some (.go l3)))
def zf6(p0:S_api_Net):Option (S_net_network×Int):=
((bif (decide (p0.grain<1))then(
some true)
else(
bif (decide (60<p0.grain))then(
some true)
else(
bif (decide ((p0.nodes.length:Int)<1))then(
some true)
else(
some (decide (8<(p0.nodes.length:Int)))))):Option Bool)).bind fun v34=>
bif v34 then(
some ((S_net_network.mk (S_api_Net.mk 0 []) [] [] []),50))
else(
(zeO 8 (p0.nodes.length:Int) 0).bind fun y5=>
((zfc p0 ((p0.nodes.length:Int) - 0+2:Int).toNat 1 0 y5:Option (Out (Int×(List Int)) (S_net_network×Int)))).bind fun o=>match o with
| .go (v5,l2)=>(
bif (decide (1024<v5))then(
some ((S_net_network.mk (S_api_Net.mk 0 []) [] [] []),50))
else(
((zfk p0 l2 ((p0.nodes.length:Int) - 0+2:Int).toNat 0 y5:Option (Out (List Int) (S_net_network×Int)))).bind fun o=>match o with
| .go l3=>(
(zfN l3).bind fun r35=>
bif r35.2 then(
some ((S_net_network.mk p0 l2 l3 r35.1),0))
else(
some ((S_net_network.mk (S_api_Net.mk 0 []) [] [] []),50)))
| .ret r=>some r))
| .ret r=>some r)
def zjq:C:=
 .seq (rg [oW 1 0,
 ⟨some 2,.alloc [(.int .i64 0),(.slice none 0 0),(.slice none 0 0),(.slice none 0 0),(.slice none 0 0)],none⟩,
 oK 3 0])
 (.seq (.seq (.scope (rg [oF 15 0 1,
 oL 16 15,
 oD 17 .lss 16 1,
 oM 18 17,
 oFg 19 0 1 18 false,
 oLg 20 19 18 false,
 oDg 21 .gtr 20 60 18 false,
 oP 22 18 21,
 oM 23 22,
 oFg 24 1 1 23 false,
 oLg 25 24 23 false,
 ⟨some 26,.len (.s 25),some (23,false)⟩,
 oDg 27 .lss 26 1 23 false,
 oP 28 23 27,
 oM 29 28,
 oFg 30 1 1 29 false,
 oLg 31 30 29 false,
 ⟨some 32,.len (.s 31),some (29,false)⟩,
 oDg 33 .gtr 32 8 29 false,
 oP 34 29 33]))
 (.cond (.s 34) (.seq (rg [⟨some 35,.build [(.int .i64 0),(.slice none 0 0),(.slice none 0 0),(.slice none 0 0),(.slice none 0 0)] [],none⟩,
 oS 5 2 35,
 oK 3 50])
 (.ret))
 (.skip)))
 (.seq (.reg true false [oN 36 2 1,
 oF 37 1 1,
 oL 38 37,
 oE 39 38,
 oF 41 1 1,
 oL 42 41,
 oE 43 42,
 ⟨some 40,.mk 1 8 [(.int .i64 0)] (.s 39) (.s 39),none⟩,
 ⟨some 44,.mk 1 8 [(.int .u64 0)] (.s 43) (.s 43),none⟩,
 ⟨some 45,.build [(.int .i64 0),(.slice none 0 0),(.slice none 0 0),(.slice none 0 0),(.slice none 0 0)] [(0,2,(.s 36)),(2,1,(.s 40)),(3,1,(.s 44))],none⟩,
 ⟨some 4,.alloc [(.int .i64 0),(.slice none 0 0),(.slice none 0 0),(.slice none 0 0),(.slice none 0 0)],none⟩,
 oS 5 4 45])
 (.seq (rg [oK 5 1])
 (.seq (.seq (rg [oF 46 0 4,
 oF 47 1 46,
 oL 48 47,
 oE 49 48,
 oK 50 0])
 (.scope (.block 0 (.loop (.seq (rg [oB 51 .lss 50 49])
 (.seq (.cond (.s 51) (.skip)
 (.exit 0))
 (.seq (.block 1 (.seq (rg [oM 52 50,
 oI 53 3 48 50,
 oN 54 3 53,
 ⟨some 7,.alloc [(.int .i64 0),(.slice none 0 0),(.slice none 0 0)],none⟩,
 oM 6 52,
 oS 3 7 54])
 (.seq (.seq (.scope (rg [oF 55 0 7,
 oL 56 55,
 oD 57 .lss 56 1,
 oM 58 57,
 oFg 59 0 7 58 false,
 oLg 60 59 58 false,
 oDg 61 .gtr 60 4 58 false,
 oP 62 58 61]))
 (.cond (.s 62) (.seq (rg [⟨some 63,.build [(.int .i64 0),(.slice none 0 0),(.slice none 0 0),(.slice none 0 0),(.slice none 0 0)] [],none⟩,
 oS 5 2 63,
 oK 3 50])
 (.ret))
 (.skip)))
 (.seq (rg [oF 64 2 4,
 oL 65 64,
 oM 66 6,
 oF 67 0 7,
 oL 68 67,
 oI 69 1 65 66,
 oS 1 69 68])
 (rg [oM 70 5,
 oF 71 0 7,
 oL 72 71,
 oB 73 .mul 70 72,
 oM 5 73])))))
 (rg [oD 74 .add 50 1,
 oM 50 74]))))))))
 (.seq (.seq (rg [oM 75 5,
 oD 76 .gtr 75 1024])
 (.cond (.s 76) (.seq (rg [⟨some 77,.build [(.int .i64 0),(.slice none 0 0),(.slice none 0 0),(.slice none 0 0),(.slice none 0 0)] [],none⟩,
 oS 5 2 77,
 oK 3 50])
 (.ret))
 (.skip)))
 (.seq (.seq (rg [oF 78 0 4,
 oF 79 1 78,
 oL 80 79,
 oE 81 80,
 oK 82 0])
 (.scope (.block 2 (.loop (.seq (rg [oB 83 .lss 82 81])
 (.seq (.cond (.s 83) (.skip)
 (.exit 2))
 (.seq (.block 3 (.seq (rg [oM 84 82,
 oI 85 3 80 82,
 oN 86 3 85,
 ⟨some 9,.alloc [(.int .i64 0),(.slice none 0 0),(.slice none 0 0)],none⟩,
 oM 8 84,
 oS 3 9 86])
 (.seq (rg [⟨some 10,.mov (.c (.int .i64 (-1))),none⟩])
 (.seq (.seq (rg [oF 87 1 9,
 oL 88 87,
 oE 89 88,
 oK 90 0])
 (.scope (.block 4 (.loop (.seq (rg [oB 91 .lss 90 89])
 (.seq (.cond (.s 91) (.skip)
 (.exit 4))
 (.seq (.block 5 (.seq (rg [oI 92 1 88 90,
 oL 93 92,
 oM 12 93])
 (.seq (.seq (.scope (rg [oM 94 12,
 oM 95 10,
 oB 96 .leq 94 95,
 oM 97 96,
 oMg 98 12 97 false,
 oFg 99 0 4 97 false,
 oFg 100 1 99 97 false,
 oLg 101 100 97 false,
 ⟨some 102,.len (.s 101),some (97,false)⟩,
 ⟨some 103,.bin .geq (.s 98) (.s 102),some (97,false)⟩,
 oP 104 97 103,
 oM 105 104,
 oMg 106 12 105 false,
 oMg 107 8 105 false,
 ⟨some 108,.bin .eql (.s 106) (.s 107),some (105,false)⟩,
 oP 109 105 108]))
 (.cond (.s 109) (.seq (rg [⟨some 110,.build [(.int .i64 0),(.slice none 0 0),(.slice none 0 0),(.slice none 0 0),(.slice none 0 0)] [],none⟩,
 oS 5 2 110,
 oK 3 50])
 (.ret))
 (.skip)))
 (.seq (rg [oM 111 12,
 oM 10 111])
 (.reg true false [oF 112 3 4,
 oL 113 112,
 oM 114 8,
 oI 115 1 113 114,
 oL 116 115,
 oM 117 12,
 ⟨some 118,.bin .shl (.c (.int .u64 1)) (.s 117),none⟩,
 oB 119 .or 116 118,
 oI 120 1 113 114,
 oS 1 120 119])))))
 (rg [oD 121 .add 90 1,
 oM 90 121]))))))))
 (.seq (rg [oN 122 5 4,
 oN 123 3 9,
 oV 124 133 122 123,
 ⟨some 125,.un .not (.s 124),none⟩])
 (.cond (.s 125) (.seq (rg [⟨some 126,.build [(.int .i64 0),(.slice none 0 0),(.slice none 0 0),(.slice none 0 0),(.slice none 0 0)] [],none⟩,
 oS 5 2 126,
 oK 3 50])
 (.ret))
 (.skip)))))))
 (rg [oD 127 .add 82 1,
 oM 82 127]))))))))
 (.seq (rg [oF 129 3 4,
 oL 130 129,
 oU 131 134 130,
 oM 128 131,
 oX 132 128 0,
 oX 133 128 1,
 oM 13 132,
 oM 14 133])
 (.seq (.seq (rg [oM 134 14,
 ⟨some 135,.un .not (.s 134),none⟩])
 (.cond (.s 135) (.seq (rg [⟨some 136,.build [(.int .i64 0),(.slice none 0 0),(.slice none 0 0),(.slice none 0 0),(.slice none 0 0)] [],none⟩,
 oS 5 2 136,
 oK 3 50])
 (.ret))
 (.skip)))
 (.seq (rg [oM 137 13,
 oF 138 4 4,
 oS 1 138 137])
 (.seq (rg [oN 139 5 4,
 oS 5 2 139,
 oK 3 0])
 (.ret)))))))))))
theorem zkU:zhM mC 115=some (140,zjq,[.cell 2 (some 5),.tmp 3],false):=zbs (by kernel_rfl)
theorem ziI{p0:S_api_Net}{r:(S_net_network×Int)}(h:zf6 p0=some r):Lx.FnA mC 115 [(.agg [(dI p0.grain),(fzE false zac p0.nodes)])] (.tup [(.agg [(dI r.1.net.grain),(fzE false zac r.1.net.nodes),(fzE false (eI .i64) r.1.cards),(fzE false (eI .u64) r.1.sets),(fzE false (eI .i64) r.1.order)]),(dI r.2)]):=by
 refine FnA.of zkU (zaZ rfl) (qac rfl) ?_;unfold zf6 at h;simp only[zjq,zlX];refine zaa ?_;try simp only[rnA,Nat.reduceLT]
 obtain⟨o1,j1,h⟩:=bind_some h;obtain⟨T1,hT1⟩:=mkT fun a:Bool=>⟨140,[(1,(.ptr 0 0)),(2,(.ptr 1 0)),(34,(dB a))],[.cells [(dI p0.grain),(fzE false zac p0.nodes)],.cells [(dI 0),zaD,zaD,zaD,zaD]]⟩
 refine EvL.jn T1 (fun a=>a=o1) ?_ ?_
 ·refine zaa ?_;try simp only[rnA,Nat.reduceEqDiff,Nat.reduceLT,reduceCtorEq]
  cases c1:(decide (p0.grain<1))
  ·rw[c1,cond_false]at j1;try simp only[rnA,Nat.reduceEqDiff,Nat.reduceLT,reduceCtorEq]
   cases c2:(decide (60<p0.grain))
   ·rw[c2,cond_false]at j1;try simp only[rnA,Nat.reduceEqDiff,Nat.reduceLT,reduceCtorEq,zam]
    cases c3:(decide ((p0.nodes.length:Int)<1))
    ·rw[c3,cond_false]at j1;try simp only[rnA,Nat.reduceEqDiff,Nat.reduceLT,reduceCtorEq,zam]
     replace j1:=qaa j1; subst j1;exact lfj hT1 rfl (wm0 [.k,.k] ⟨MB.cs ⟨qb1,qb1,qb1⟩,⟨MB.cs ⟨qb1,qb1,qb1,qb1,qb1,qb1⟩,qb1⟩⟩)
    rw[c3,cond_true]at j1;try simp only[rnA,Nat.reduceEqDiff,Nat.reduceLT,reduceCtorEq]
    replace j1:=qaa j1; subst j1;exact lfj hT1 rfl (wm0 [.k,.k] ⟨MB.cs ⟨qb1,qb1,qb1⟩,⟨MB.cs ⟨qb1,qb1,qb1,qb1,qb1,qb1⟩,qb1⟩⟩)
   rw[c2,cond_true]at j1;try simp only[rnA,Nat.reduceEqDiff,Nat.reduceLT,reduceCtorEq]
   replace j1:=qaa j1; subst j1;exact lfj hT1 rfl (wm0 [.k,.k] ⟨MB.cs ⟨qb1,qb1,qb1⟩,⟨MB.cs ⟨qb1,qb1,qb1,qb1,qb1,qb1⟩,qb1⟩⟩)
  rw[c1,cond_true]at j1;try simp only[rnA,Nat.reduceEqDiff,Nat.reduceLT,reduceCtorEq]
  replace j1:=qaa j1; subst j1;exact lfj hT1 rfl (wm0 [.k,.k] ⟨MB.cs ⟨qb1,qb1,qb1⟩,⟨MB.cs ⟨qb1,qb1,qb1,qb1,qb1,qb1⟩,qb1⟩⟩)
 rintro v34 rfl;rw[congrFun hT1 v34];refine zaa ?_;try simp only[rnA,Nat.reduceEqDiff]
 cases c4:v34
 ·rw[c4,cond_false]at h;obtain⟨y5,g6,h⟩:=bind_some h;try simp only[rnA,Nat.reduceEqDiff,Nat.reduceLT,Nat.reduceAdd,Nat.reduceLeDiff,zam,(zau g6).1.1,(zau g6).1.2,qa1,(show List.replicate (Int.toNat (p0.nodes.length:Int)) [(dI 0)]=y5.map ((eI .i64).c true)from zbD g6 ((eI .i64).c true)),(show List.replicate (Int.toNat (p0.nodes.length:Int)) [(dU 0)]=y5.map ((eI .u64).c true)from zbD g6 ((eI .u64).c true))]
  obtain⟨o5,j5,h⟩:=bind_some h;obtain⟨T5,hT5⟩:=mkT fun a:(Int×(List Int))=>⟨140,[(2,(.ptr 1 0)),(4,(.ptr 4 0)),(5,(dI a.1))],[.gone,.cells [(dI 0),zaD,zaD,zaD,zaD],.els 1 (a.2.map ((eI .i64).c true)),.els 1 (y5.map ((eI .u64).c true)),.cells [(dI p0.grain),(fzE false zac p0.nodes),(.sl 2 0 1 (Int.toNat (p0.nodes.length:Int)) (some (Int.toNat (p0.nodes.length:Int))) (Int.toNat (p0.nodes.length:Int))),(.sl 3 0 1 (Int.toNat (p0.nodes.length:Int)) (some (Int.toNat (p0.nodes.length:Int))) (Int.toNat (p0.nodes.length:Int))),zaD]]⟩
  refine EvL.jn T5 (fun a=>o5=.go a∧a.2.length=(Int.toNat (p0.nodes.length:Int))) ?_ ?_
  ·refine zaa ?_;simp only[rnA];obtain⟨T8,hT8⟩:=mkT fun a:(Int×Int×(List Int))=>⟨140,[(2,(.ptr 1 0)),(4,(.ptr 4 0)),(5,(dI a.1)),(48,(fzE false zac p0.nodes)),(49,(dI (p0.nodes.length:Int))),(50,(dI a.2.1))],[.gone,.cells [(dI 0),zaD,zaD,zaD,zaD],.els 1 (a.2.2.map ((eI .i64).c true)),.els 1 (y5.map ((eI .u64).c true)),.cells [(dI p0.grain),(fzE false zac p0.nodes),(.sl 2 0 1 (Int.toNat (p0.nodes.length:Int)) (some (Int.toNat (p0.nodes.length:Int))) (Int.toNat (p0.nodes.length:Int))),(.sl 3 0 1 (Int.toNat (p0.nodes.length:Int)) (some (Int.toNat (p0.nodes.length:Int))) (Int.toNat (p0.nodes.length:Int))),zaD]]⟩
   refine EvL.rounds (α:=(Int×Int×(List Int))) T8 (fun n a=>zfc p0 n a.1 a.2.1 a.2.2=some o5∧a.2.2.length=(Int.toNat (p0.nodes.length:Int))) ((p0.nodes.length:Int) - 0+2:Int).toNat (1,0,y5) (by rw[hT8]; exact wm0 [.d,.k,.k,.k,.k] ⟨rfl,⟨MB.cs ⟨qb1,qb1,qb1,qb1,qb1,qb1⟩,⟨MB.es (eI .i64) true y5,⟨MB.es (eI .u64) true y5,⟨MB.cs ⟨qb1,qb1,rfl,rfl,qb1,qb1⟩,qb1⟩⟩⟩⟩⟩) ⟨j5,zaN g6⟩ (fun _ h=>nomatch (show(none:Option (Out (Int×(List Int)) (S_net_network×Int)))=some o5 from h.1)) ?_;rintro n ⟨v5,v50,l2⟩ ⟨j5,el2⟩;simp only[zfc]at j5;rw[congrFun hT8 (v5,v50,l2)];refine zaa ?_;try simp only[rnA,Nat.reduceEqDiff,Nat.reduceLT]
   cases c7:(decide (v50<(p0.nodes.length:Int)))
   ·rw[c7,cond_false]at j5;try simp only[rnA]
    replace j5:=qaa j5; subst j5;exact⟨_,⟨rfl,el2⟩,by rw[hT5]; exact wm0 [.d,.k,.k,.k,.k] ⟨rfl,⟨MB.cs ⟨qb1,qb1,qb1,qb1,qb1,qb1⟩,⟨MB.es (eI .i64) true l2,⟨MB.es (eI .u64) true y5,⟨MB.cs ⟨qb1,qb1,rfl,rfl,qb1,qb1⟩,qb1⟩⟩⟩⟩⟩⟩
   rw[c7,cond_true]at j5;obtain⟨x8,g9,j5⟩:=bind_some j5;try simp only[rnA,Nat.reduceEqDiff,Nat.reduceLT,Nat.reduceAdd,Nat.reduceLeDiff,zat,zak (n:=3) (e:=zac) rfl g9]
   obtain⟨o9,j9,j5⟩:=bind_some j5;obtain⟨T9,hT9⟩:=mkT fun a:Bool=>⟨140,[(2,(.ptr 1 0)),(4,(.ptr 4 0)),(5,(dI v5)),(6,(dI v50)),(7,(.ptr 5 0)),(48,(fzE false zac p0.nodes)),(49,(dI (p0.nodes.length:Int))),(50,(dI v50)),(62,(dB a))],[.gone,.cells [(dI 0),zaD,zaD,zaD,zaD],.els 1 (l2.map ((eI .i64).c true)),.els 1 (y5.map ((eI .u64).c true)),.cells [(dI p0.grain),(fzE false zac p0.nodes),(.sl 2 0 1 (Int.toNat (p0.nodes.length:Int)) (some (Int.toNat (p0.nodes.length:Int))) (Int.toNat (p0.nodes.length:Int))),(.sl 3 0 1 (Int.toNat (p0.nodes.length:Int)) (some (Int.toNat (p0.nodes.length:Int))) (Int.toNat (p0.nodes.length:Int))),zaD],.cells [(dI x8.card),(fzE false (eI .i64) x8.parents),(fzE false (eL (eI .i64)) x8.rows)]]⟩
   refine EvL.jn T9 (fun a=>a=o9) ?_ ?_
   ·refine zaa ?_;try simp only[rnA,Nat.reduceEqDiff,Nat.reduceLT]
    cases c10:(decide (x8.card<1))
    ·rw[c10,cond_false]at j9;try simp only[rnA,Nat.reduceEqDiff,Nat.reduceLT]
     replace j9:=qaa j9; subst j9;exact lfj hT9 rfl (wm0 [.d,.k,.k,.k,.k,.k] ⟨rfl,⟨MB.cs ⟨qb1,qb1,qb1,qb1,qb1,qb1⟩,⟨MB.es (eI .i64) true l2,⟨MB.es (eI .u64) true y5,⟨MB.cs ⟨qb1,qb1,rfl,rfl,qb1,qb1⟩,⟨MB.cs ⟨qb1,qb1,qb1,qb1⟩,qb1⟩⟩⟩⟩⟩⟩)
    rw[c10,cond_true]at j9;try simp only[rnA,Nat.reduceEqDiff,Nat.reduceLT]
    replace j9:=qaa j9; subst j9;exact lfj hT9 rfl (wm0 [.d,.k,.k,.k,.k,.k] ⟨rfl,⟨MB.cs ⟨qb1,qb1,qb1,qb1,qb1,qb1⟩,⟨MB.es (eI .i64) true l2,⟨MB.es (eI .u64) true y5,⟨MB.cs ⟨qb1,qb1,rfl,rfl,qb1,qb1⟩,⟨MB.cs ⟨qb1,qb1,qb1,qb1⟩,qb1⟩⟩⟩⟩⟩⟩)
   rintro v62 rfl;rw[congrFun hT9 v62];refine zaa ?_;try simp only[rnA,Nat.reduceEqDiff]
   cases c11:v62
   ·rw[c11,cond_false]at j5;obtain⟨x12,g13,j5⟩:=bind_some j5;obtain⟨y14,g15,j5⟩:=bind_some j5;try simp only[rnA,Nat.reduceEqDiff,Nat.reduceLT,Nat.reduceLeDiff,el2,za3 g13,(show v50<(((Int.toNat (p0.nodes.length:Int)):Nat):Int)from el2 ▸ zaY g13),zaB g13 ((eI .i64).c true),(show(l2.map ((eI .i64).c true)).set v50.toNat [(dI x8.card)]=y14.map ((eI .i64).c true)from za2 g15 ((eI .i64).c true))]
    exact⟨((w64 (v5 * x8.card)),(w64 (v50+1)),y14),⟨j5,(zaR g15).trans el2⟩,by rw[hT8]; exact wm0 [.d,.k,.k,.k,.k] ⟨rfl,⟨MB.cs ⟨qb1,qb1,qb1,qb1,qb1,qb1⟩,⟨MB.es (eI .i64) true y14,⟨MB.es (eI .u64) true y5,⟨MB.cs ⟨qb1,qb1,rfl,rfl,qb1,qb1⟩,qb1⟩⟩⟩⟩⟩⟩
   rw[c11,cond_true]at j5;try simp only[rnA,Nat.reduceEqDiff,Nat.reduceLT,Nat.reduceAdd,Nat.reduceLeDiff]
   replace j5:=qaa j5; subst j5;dsimp only at h;replace h:=qaa h; subst h;exact zfD.ret rfl (Snp.zb7 (.cons (.za8 (.cons (.lit _) (.cons (zah zac) (.cons (zah (eI .i64)) (.cons (zah (eI .u64)) (.cons (zah (eI .i64)) .nil)))))) (.cons (.lit _) .nil)))
  rintro⟨v5,l2⟩ ⟨rfl,el2⟩;dsimp only at h;rw[congrFun hT5 (v5,l2)];refine zaa ?_;try simp only[rnA,Nat.reduceEqDiff,Nat.reduceLT]
  cases c16:(decide (1024<v5))
  ·rw[c16,cond_false]at h;try simp only[rnA,Nat.reduceEqDiff,Nat.reduceLT,zam]
   obtain⟨o34,j34,h⟩:=bind_some h;obtain⟨T34,hT34⟩:=mkT fun a:(List Int)=>⟨140,[(2,(.ptr 1 0)),(4,(.ptr 4 0))],[.gone,.cells [(dI 0),zaD,zaD,zaD,zaD],.els 1 (l2.map ((eI .i64).c true)),.els 1 (a.map ((eI .u64).c true)),.cells [(dI p0.grain),(fzE false zac p0.nodes),(.sl 2 0 1 (Int.toNat (p0.nodes.length:Int)) (some (Int.toNat (p0.nodes.length:Int))) (Int.toNat (p0.nodes.length:Int))),(.sl 3 0 1 (Int.toNat (p0.nodes.length:Int)) (some (Int.toNat (p0.nodes.length:Int))) (Int.toNat (p0.nodes.length:Int))),zaD]]⟩
   refine EvL.jn T34 (fun a=>o34=.go a∧a.length=(Int.toNat (p0.nodes.length:Int))) ?_ ?_
   ·refine zaa ?_;simp only[rnA];obtain⟨T51,hT51⟩:=mkT fun a:(Int×(List Int))=>⟨140,[(2,(.ptr 1 0)),(4,(.ptr 4 0)),(80,(fzE false zac p0.nodes)),(81,(dI (p0.nodes.length:Int))),(82,(dI a.1))],[.gone,.cells [(dI 0),zaD,zaD,zaD,zaD],.els 1 (l2.map ((eI .i64).c true)),.els 1 (a.2.map ((eI .u64).c true)),.cells [(dI p0.grain),(fzE false zac p0.nodes),(.sl 2 0 1 (Int.toNat (p0.nodes.length:Int)) (some (Int.toNat (p0.nodes.length:Int))) (Int.toNat (p0.nodes.length:Int))),(.sl 3 0 1 (Int.toNat (p0.nodes.length:Int)) (some (Int.toNat (p0.nodes.length:Int))) (Int.toNat (p0.nodes.length:Int))),zaD]]⟩
    refine EvL.rounds (α:=(Int×(List Int))) T51 (fun n a=>zfk p0 l2 n a.1 a.2=some o34∧a.2.length=(Int.toNat (p0.nodes.length:Int))) ((p0.nodes.length:Int) - 0+2:Int).toNat (0,y5) (by rw[hT51]; exact wm0 [.d,.k,.k,.k,.k] ⟨rfl,⟨MB.cs ⟨qb1,qb1,qb1,qb1,qb1,qb1⟩,⟨MB.es (eI .i64) true l2,⟨MB.es (eI .u64) true y5,⟨MB.cs ⟨qb1,qb1,rfl,rfl,qb1,qb1⟩,qb1⟩⟩⟩⟩⟩) ⟨j34,zaN g6⟩ (fun _ h=>nomatch (show(none:Option (Out (List Int) (S_net_network×Int)))=some o34 from h.1)) ?_;rintro n ⟨v82,l3⟩ ⟨j34,el3⟩;simp only[zfk]at j34;rw[congrFun hT51 (v82,l3)];refine zaa ?_;try simp only[rnA,Nat.reduceEqDiff,Nat.reduceLT]
    cases c17:(decide (v82<(p0.nodes.length:Int)))
    ·rw[c17,cond_false]at j34;try simp only[rnA]
     replace j34:=qaa j34; subst j34;exact⟨_,⟨rfl,el3⟩,by rw[hT34]; exact wm0 [.d,.k,.k,.k,.k] ⟨rfl,⟨MB.cs ⟨qb1,qb1,qb1,qb1,qb1,qb1⟩,⟨MB.es (eI .i64) true l2,⟨MB.es (eI .u64) true l3,⟨MB.cs ⟨qb1,qb1,rfl,rfl,qb1,qb1⟩,qb1⟩⟩⟩⟩⟩⟩
    rw[c17,cond_true]at j34;obtain⟨x18,g19,j34⟩:=bind_some j34;try simp only[rnA,Nat.reduceEqDiff,Nat.reduceLT,Nat.reduceAdd,Nat.reduceLeDiff,zat,zak (n:=3) (e:=zac) rfl g19,zam]
    obtain⟨o55,j55,j34⟩:=bind_some j34;obtain⟨T55,hT55⟩:=mkT fun a:(List Int)=>⟨140,[(2,(.ptr 1 0)),(4,(.ptr 4 0)),(9,(.ptr 5 0)),(80,(fzE false zac p0.nodes)),(81,(dI (p0.nodes.length:Int))),(82,(dI v82))],[.gone,.cells [(dI 0),zaD,zaD,zaD,zaD],.els 1 (l2.map ((eI .i64).c true)),.els 1 (a.map ((eI .u64).c true)),.cells [(dI p0.grain),(fzE false zac p0.nodes),(.sl 2 0 1 (Int.toNat (p0.nodes.length:Int)) (some (Int.toNat (p0.nodes.length:Int))) (Int.toNat (p0.nodes.length:Int))),(.sl 3 0 1 (Int.toNat (p0.nodes.length:Int)) (some (Int.toNat (p0.nodes.length:Int))) (Int.toNat (p0.nodes.length:Int))),zaD],.cells [(dI x18.card),(fzE false (eI .i64) x18.parents),(fzE false (eL (eI .i64)) x18.rows)]]⟩
    refine EvL.jn T55 (fun a=>o55=.go a∧a.length=(Int.toNat (p0.nodes.length:Int))) ?_ ?_
    ·refine zaa ?_;simp only[rnA];obtain⟨T58,hT58⟩:=mkT fun a:(Int×Int×(List Int))=>⟨140,[(2,(.ptr 1 0)),(4,(.ptr 4 0)),(8,(dI v82)),(9,(.ptr 5 0)),(10,(dI a.1)),(80,(fzE false zac p0.nodes)),(81,(dI (p0.nodes.length:Int))),(82,(dI v82)),(88,(fzE false (eI .i64) x18.parents)),(89,(dI (x18.parents.length:Int))),(90,(dI a.2.1))],[.gone,.cells [(dI 0),zaD,zaD,zaD,zaD],.els 1 (l2.map ((eI .i64).c true)),.els 1 (a.2.2.map ((eI .u64).c true)),.cells [(dI p0.grain),(fzE false zac p0.nodes),(.sl 2 0 1 (Int.toNat (p0.nodes.length:Int)) (some (Int.toNat (p0.nodes.length:Int))) (Int.toNat (p0.nodes.length:Int))),(.sl 3 0 1 (Int.toNat (p0.nodes.length:Int)) (some (Int.toNat (p0.nodes.length:Int))) (Int.toNat (p0.nodes.length:Int))),zaD],.cells [(dI x18.card),(fzE false (eI .i64) x18.parents),(fzE false (eL (eI .i64)) x18.rows)]]⟩
     refine EvL.rounds (α:=(Int×Int×(List Int))) T58 (fun n a=>zfg x18 p0 v82 n a.1 a.2.1 a.2.2=some o55∧a.2.2.length=(Int.toNat (p0.nodes.length:Int))) ((x18.parents.length:Int) - 0+2:Int).toNat ((-1),0,l3) (by rw[hT58]; exact wm0 [.d,.k,.k,.k,.k,.k] ⟨rfl,⟨MB.cs ⟨qb1,qb1,qb1,qb1,qb1,qb1⟩,⟨MB.es (eI .i64) true l2,⟨MB.es (eI .u64) true l3,⟨MB.cs ⟨qb1,qb1,rfl,rfl,qb1,qb1⟩,⟨MB.cs ⟨qb1,qb1,qb1,qb1⟩,qb1⟩⟩⟩⟩⟩⟩) ⟨j55,el3⟩ (fun _ h=>nomatch (show(none:Option (Out (List Int) (S_net_network×Int)))=some o55 from h.1)) ?_;rintro n ⟨v10,v90,l3'⟩ ⟨j55,el3'⟩;simp only[zfg]at j55;rw[congrFun hT58 (v10,v90,l3')];refine zaa ?_;try simp only[rnA,Nat.reduceEqDiff,Nat.reduceLT]
     cases c20:(decide (v90<(x18.parents.length:Int)))
     ·rw[c20,cond_false]at j55;try simp only[rnA,Nat.reduceEqDiff,Nat.reduceLT]
      replace j55:=qaa j55; subst j55;exact⟨_,⟨rfl,el3'⟩,by rw[hT55]; exact wm0 [.d,.k,.k,.k,.k,.k] ⟨rfl,⟨MB.cs ⟨qb1,qb1,qb1,qb1,qb1,qb1⟩,⟨MB.es (eI .i64) true l2,⟨MB.es (eI .u64) true l3',⟨MB.cs ⟨qb1,qb1,rfl,rfl,qb1,qb1⟩,⟨MB.cs ⟨qb1,qb1,qb1,qb1⟩,qb1⟩⟩⟩⟩⟩⟩⟩
     rw[c20,cond_true]at j55;obtain⟨x21,g22,j55⟩:=bind_some j55;try simp only[rnA,Nat.reduceEqDiff,Nat.reduceLT,zak (n:=1) (e:=(eI .i64)) rfl g22]
     obtain⟨o59,j59,j55⟩:=bind_some j55;obtain⟨T59,hT59⟩:=mkT fun a:Bool=>⟨140,[(2,(.ptr 1 0)),(4,(.ptr 4 0)),(8,(dI v82)),(9,(.ptr 5 0)),(12,(dI x21)),(80,(fzE false zac p0.nodes)),(81,(dI (p0.nodes.length:Int))),(82,(dI v82)),(88,(fzE false (eI .i64) x18.parents)),(89,(dI (x18.parents.length:Int))),(90,(dI v90)),(109,(dB a))],[.gone,.cells [(dI 0),zaD,zaD,zaD,zaD],.els 1 (l2.map ((eI .i64).c true)),.els 1 (l3'.map ((eI .u64).c true)),.cells [(dI p0.grain),(fzE false zac p0.nodes),(.sl 2 0 1 (Int.toNat (p0.nodes.length:Int)) (some (Int.toNat (p0.nodes.length:Int))) (Int.toNat (p0.nodes.length:Int))),(.sl 3 0 1 (Int.toNat (p0.nodes.length:Int)) (some (Int.toNat (p0.nodes.length:Int))) (Int.toNat (p0.nodes.length:Int))),zaD],.cells [(dI x18.card),(fzE false (eI .i64) x18.parents),(fzE false (eL (eI .i64)) x18.rows)]]⟩
     refine EvL.jn T59 (fun a=>a=o59) ?_ ?_
     ·refine zaa ?_;try simp only[rnA,Nat.reduceEqDiff,Nat.reduceLT]
      cases c23:(decide (x21≤v10))
      ·rw[c23,cond_false]at j59;try simp only[rnA,Nat.reduceEqDiff,Nat.reduceLT,zam]
       cases c24:(decide ((p0.nodes.length:Int)≤x21))
       ·rw[c24,cond_false]at j59;try simp only[rnA,Nat.reduceEqDiff,Nat.reduceLT]
        replace j59:=qaa j59; subst j59;exact lfj hT59 rfl (wm0 [.d,.k,.k,.k,.k,.k] ⟨rfl,⟨MB.cs ⟨qb1,qb1,qb1,qb1,qb1,qb1⟩,⟨MB.es (eI .i64) true l2,⟨MB.es (eI .u64) true l3',⟨MB.cs ⟨qb1,qb1,rfl,rfl,qb1,qb1⟩,⟨MB.cs ⟨qb1,qb1,qb1,qb1⟩,qb1⟩⟩⟩⟩⟩⟩)
       rw[c24,cond_true]at j59;try simp only[rnA,Nat.reduceEqDiff,Nat.reduceLT]
       replace j59:=qaa j59; subst j59;exact lfj hT59 rfl (wm0 [.d,.k,.k,.k,.k,.k] ⟨rfl,⟨MB.cs ⟨qb1,qb1,qb1,qb1,qb1,qb1⟩,⟨MB.es (eI .i64) true l2,⟨MB.es (eI .u64) true l3',⟨MB.cs ⟨qb1,qb1,rfl,rfl,qb1,qb1⟩,⟨MB.cs ⟨qb1,qb1,qb1,qb1⟩,qb1⟩⟩⟩⟩⟩⟩)
      rw[c23,cond_true]at j59;try simp only[rnA,Nat.reduceEqDiff,Nat.reduceLT]
      replace j59:=qaa j59; subst j59;exact lfj hT59 rfl (wm0 [.d,.k,.k,.k,.k,.k] ⟨rfl,⟨MB.cs ⟨qb1,qb1,qb1,qb1,qb1,qb1⟩,⟨MB.es (eI .i64) true l2,⟨MB.es (eI .u64) true l3',⟨MB.cs ⟨qb1,qb1,rfl,rfl,qb1,qb1⟩,⟨MB.cs ⟨qb1,qb1,qb1,qb1⟩,qb1⟩⟩⟩⟩⟩⟩)
     rintro v109 rfl;rw[congrFun hT59 v109];refine zaa ?_;try simp only[rnA,Nat.reduceEqDiff]
     cases c25:v109
     ·rw[c25,cond_false]at j55;obtain⟨x26,g27,j55⟩:=bind_some j55;obtain⟨q28,g29,j55⟩:=bind_some j55;obtain⟨y30,g31,j55⟩:=bind_some j55;try simp only[rnA,Nat.reduceEqDiff,Nat.reduceLT,Nat.reduceLeDiff,el3',za3 g27,(show v82<(((Int.toNat (p0.nodes.length:Int)):Nat):Int)from el3' ▸ zaY g27),zaB g27 ((eI .u64).c true),(za5 g29).1,(za5 g29).2,(show(l3'.map ((eI .u64).c true)).set v82.toNat [(dU (orI .u64 x26 q28))]=y30.map ((eI .u64).c true)from za2 g31 ((eI .u64).c true))]
      exact⟨(x21,(w64 (v90+1)),y30),⟨j55,(zaR g31).trans el3'⟩,by rw[hT58]; exact wm0 [.d,.k,.k,.k,.k,.k] ⟨rfl,⟨MB.cs ⟨qb1,qb1,qb1,qb1,qb1,qb1⟩,⟨MB.es (eI .i64) true l2,⟨MB.es (eI .u64) true y30,⟨MB.cs ⟨qb1,qb1,rfl,rfl,qb1,qb1⟩,⟨MB.cs ⟨qb1,qb1,qb1,qb1⟩,qb1⟩⟩⟩⟩⟩⟩⟩
     rw[c25,cond_true]at j55;try simp only[rnA,Nat.reduceEqDiff,Nat.reduceLT,Nat.reduceAdd,Nat.reduceLeDiff]
     replace j55:=qaa j55; subst j55;dsimp only at j34;replace j34:=qaa j34; subst j34;dsimp only at h;replace h:=qaa h; subst h;exact zfD.ret rfl (Snp.zb7 (.cons (.za8 (.cons (.lit _) (.cons (zah zac) (.cons (zah (eI .i64)) (.cons (zah (eI .u64)) (.cons (zah (eI .i64)) .nil)))))) (.cons (.lit _) .nil)))
    rintro l3' ⟨rfl,el3'⟩;dsimp only at j34;rw[congrFun hT55 l3'];refine zaa ?_;obtain⟨r32,g33,j34⟩:=bind_some j34;try simp only[rnA,Nat.reduceEqDiff,Nat.reduceLT,Nat.reduceAdd,Nat.reduceLeDiff]
    refine EvL.fn (zfT g33) rfl rfl (.cons (.za8 (.cons (.lit _) (.cons (zad _ _ (fun h=>nomatch h)) (.cons (zaj (e:=(eI .i64)) (t:=true) rfl (.inl rfl) (el2).symm (el2).symm (fun k h=>by cases h; exact qae _) (fun h=>nomatch h)) (.cons (zaj (e:=(eI .u64)) (t:=true) rfl (.inl rfl) (el3').symm (el3').symm (fun k h=>by cases h; exact qae _) (fun h=>nomatch h)) (.cons (zah (eI .i64)) .nil)))))) (.cons (.za8 (.cons (.lit _) (.cons (zad _ _ (fun h=>nomatch h)) (.cons (zad _ _ (fun h=>nomatch h)) .nil)))) .nil)) ?_;try simp only[rnA,Nat.reduceEqDiff,Nat.reduceLT]
    cases c34:r32
    ·rw[c34,cond_false]at j34;try simp only[rnA,Nat.reduceEqDiff,Nat.reduceLT,Nat.reduceAdd,Nat.reduceLeDiff]
     replace j34:=qaa j34; subst j34;dsimp only at h;replace h:=qaa h; subst h;exact zfD.ret rfl (Snp.zb7 (.cons (.za8 (.cons (.lit _) (.cons (zah zac) (.cons (zah (eI .i64)) (.cons (zah (eI .u64)) (.cons (zah (eI .i64)) .nil)))))) (.cons (.lit _) .nil)))
    rw[c34,cond_true]at j34;try simp only[rnA,Nat.reduceEqDiff,Nat.reduceLT]
    exact⟨((w64 (v82+1)),l3'),⟨j34,el3'⟩,by rw[hT51]; exact wm0 [.d,.k,.k,.k,.k] ⟨rfl,⟨MB.cs ⟨qb1,qb1,qb1,qb1,qb1,qb1⟩,⟨MB.es (eI .i64) true l2,⟨MB.es (eI .u64) true l3',⟨MB.cs ⟨qb1,qb1,rfl,rfl,qb1,qb1⟩,qb1⟩⟩⟩⟩⟩⟩
   rintro l3 ⟨rfl,el3⟩;dsimp only at h;rw[congrFun hT34 l3];refine zaa ?_;obtain⟨r35,g36,h⟩:=bind_some h;try simp only[rnA,Nat.reduceEqDiff,Nat.reduceLT]
   refine EvL.fn (zj8 g36) rfl rfl (.cons (zaj (e:=(eI .u64)) (t:=true) rfl (.inl rfl) (el3).symm (el3).symm (fun k h=>by cases h; exact qae _) (fun h=>nomatch h)) .nil) ?_;try simp only[rnA,Nat.reduceEqDiff,Nat.reduceLT]
   cases c37:r35.2
   ·rw[c37,cond_false]at h;try simp only[rnA,Nat.reduceEqDiff,Nat.reduceLT,Nat.reduceAdd,Nat.reduceLeDiff]
    replace h:=qaa h; subst h;exact zfD.ret rfl (Snp.zb7 (.cons (.za8 (.cons (.lit _) (.cons (zah zac) (.cons (zah (eI .i64)) (.cons (zah (eI .u64)) (.cons (zah (eI .i64)) .nil)))))) (.cons (.lit _) .nil)))
   rw[c37,cond_true]at h;try simp only[rnA,Nat.reduceEqDiff,Nat.reduceLT,Nat.reduceAdd,Nat.reduceLeDiff]
   replace h:=qaa h; subst h;exact zfD.ret rfl (Snp.zb7 (.cons (.za8 (.cons (.lit _) (.cons (zad _ _ (fun h=>nomatch h)) (.cons (zaj (e:=(eI .i64)) (t:=true) rfl (.inl rfl) (el2).symm (el2).symm (fun k h=>by cases h; exact qae _) (fun h=>nomatch h)) (.cons (zaj (e:=(eI .u64)) (t:=true) rfl (.inl rfl) (el3).symm (el3).symm (fun k h=>by cases h; exact qae _) (fun h=>nomatch h)) (.cons (zad _ _ (fun h=>nomatch h)) .nil)))))) (.cons (.lit _) .nil)))
  rw[c16,cond_true]at h;try simp only[rnA,Nat.reduceEqDiff,Nat.reduceLT,Nat.reduceAdd,Nat.reduceLeDiff]
  replace h:=qaa h; subst h;exact zfD.ret rfl (Snp.zb7 (.cons (.za8 (.cons (.lit _) (.cons (zah zac) (.cons (zah (eI .i64)) (.cons (zah (eI .u64)) (.cons (zah (eI .i64)) .nil)))))) (.cons (.lit _) .nil)))
 rw[c4,cond_true]at h;try simp only[rnA,Nat.reduceEqDiff,Nat.reduceLT,Nat.reduceAdd,Nat.reduceLeDiff]
 replace h:=qaa h; subst h;exact zfD.ret rfl (Snp.zb7 (.cons (.za8 (.cons (.lit _) (.cons (zah zac) (.cons (zah (eI .i64)) (.cons (zah (eI .u64)) (.cons (zah (eI .i64)) .nil)))))) (.cons (.lit _) .nil)))
def zbZ(p1:(List Int))(r1:(S_net_network×Int)):Nat→Int→Option (Out Unit Int)
 | 0,_=>none
 | n+1,v26=>(
bif (decide (v26<(p1.length:Int)))then(
(za6 p1 v26).bind fun x6=>
((bif (decide (x6<(-1)))then(
some true)
else(
(za6 r1.1.cards v26).bind fun x9=>
some (decide (x9≤x6))):Option Bool)).bind fun v41=>
bif v41 then(
some (.ret 2))
else(
zbZ p1 r1 n (w64 (v26+1))))
else(
some (.go ())))
def zc0(p0:S_api_Net)(p1:(List Int)):Option Int:=
(zf6 p0).bind fun r1=>
bif (r1.2 == 0)then(
bif ((p1.length:Int)==(r1.1.net.nodes.length:Int))then(
((zbZ p1 r1 ((p1.length:Int) - 0+2:Int).toNat 0:Option (Out Unit Int))).bind fun o=>match o with
| .go _=>(
some 0)
| .ret r=>some r)
else(
some 2))
else(
some r1.2)
theorem zgj{p0:S_api_Net}{p1:(List Int)}{r:Int}(h:zc0 p0 p1=some r):Lx.Fn mC 122 [(.agg [(dI p0.grain),(fzE false zac p0.nodes)]),(fzE false (eI .i64) p1)] (dI r):=by
 refine fnO (by conv=>lhs; cbv) ?_;unfold zc0 at h;refine zaa ?_;obtain⟨r1,g2,h⟩:=bind_some h;try simp only[rnA,Nat.reduceEqDiff,Nat.reduceLT,Nat.reduceAdd,Nat.reduceLeDiff,reduceCtorEq]
 refine EvL.fnS (ziI g2) rfl rfl (.cons (Mzs.agg (.cons (.lit _) (.cons (zal _ _ (fun h=>by cases h<;>contradiction)) .nil))) .nil) ⟨⟨qb1,(zae _ _),qb1⟩,qb1⟩ ⟨⟨qb1,(zae _ _),(zae _ _),(zae _ _),(zae _ _),qb1⟩,qb1,qb1⟩ ?_;try simp only[rnA,Nat.reduceEqDiff,Nat.reduceLT,Nat.reduceAdd,Nat.reduceLeDiff,reduceCtorEq]
 cases c3:(r1.2 == 0)
 ·rw[c3,cond_false]at h;try simp only[rnA,Nat.reduceEqDiff,Nat.reduceLT,reduceCtorEq]
  replace h:=qaa h; subst h;exact za0.ret rfl (.lit _)
 rw[c3,cond_true]at h;try simp only[rnA,Nat.reduceEqDiff,Nat.reduceLT,reduceCtorEq,zam]
 cases c4:((p1.length:Int)==(r1.1.net.nodes.length:Int))
 ·rw[c4,cond_false]at h;try simp only[rnA,Nat.reduceLT]
  replace h:=qaa h; subst h;exact za0.ret rfl (.lit _)
 rw[c4,cond_true]at h;try simp only[rnA,Nat.reduceEqDiff,Nat.reduceLT,reduceCtorEq,zam]
 obtain⟨o4,j4,h⟩:=bind_some h;obtain⟨T4,hT4⟩:=mkT fun a:Unit=>⟨43,[],[]⟩
 refine EvL.jn T4 (fun a=>o4=.go a) ?_ ?_
 ·refine zaa ?_;simp only[rnA];obtain⟨T7,hT7⟩:=mkT fun a:Int=>⟨43,[(5,(.ptr 1 0)),(24,(fzE false (eI .i64) p1)),(25,(dI (p1.length:Int))),(26,(dI a))],[.gone,.cells [(dI r1.1.net.grain),(fzE false zac r1.1.net.nodes),(fzE false (eI .i64) r1.1.cards),(fzE false (eI .u64) r1.1.sets),(fzE false (eI .i64) r1.1.order)]]⟩
  refine EvL.rounds (α:=Int) T7 (fun n a=>zbZ p1 r1 n a=some o4) ((p1.length:Int) - 0+2:Int).toNat 0 (by rw[hT7]; exact wm0 [.d,.k] ⟨rfl,⟨MB.cs ⟨qb1,qb1,qb1,qb1,qb1,qb1⟩,qb1⟩⟩) j4 (fun _ h=>nomatch (show(none:Option (Out Unit Int))=some o4 from h)) ?_;rintro n v26 j4;simp only[zbZ]at j4;rw[congrFun hT7 v26];refine zaa ?_;try simp only[rnA,Nat.reduceEqDiff,Nat.reduceLT]
  cases c5:(decide (v26<(p1.length:Int)))
  ·rw[c5,cond_false]at j4;try simp only[rnA]
   replace j4:=qaa j4; subst j4;exact lfj hT4 rfl (wm0 [] (by exact trivial))
  rw[c5,cond_true]at j4;obtain⟨x6,g7,j4⟩:=bind_some j4;try simp only[rnA,Nat.reduceEqDiff,Nat.reduceLT,zak (n:=1) (e:=(eI .i64)) rfl g7]
  obtain⟨o8,j8,j4⟩:=bind_some j4;obtain⟨T8,hT8⟩:=mkT fun a:Bool=>⟨43,[(5,(.ptr 1 0)),(24,(fzE false (eI .i64) p1)),(25,(dI (p1.length:Int))),(26,(dI v26)),(41,(dB a))],[.gone,.cells [(dI r1.1.net.grain),(fzE false zac r1.1.net.nodes),(fzE false (eI .i64) r1.1.cards),(fzE false (eI .u64) r1.1.sets),(fzE false (eI .i64) r1.1.order)]]⟩
  refine EvL.jn T8 (fun a=>a=o8) ?_ ?_
  ·refine zaa ?_;try simp only[rnA,Nat.reduceEqDiff,Nat.reduceLT]
   cases c8:(decide (x6<(-1)))
   ·rw[c8,cond_false]at j8;obtain⟨x9,g10,j8⟩:=bind_some j8;try simp only[rnA,Nat.reduceEqDiff,Nat.reduceLT,zak (n:=1) (e:=(eI .i64)) rfl g10]
    replace j8:=qaa j8; subst j8;exact lfj hT8 rfl (wm0 [.d,.k] ⟨rfl,⟨MB.cs ⟨qb1,qb1,qb1,qb1,qb1,qb1⟩,qb1⟩⟩)
   rw[c8,cond_true]at j8;try simp only[rnA,Nat.reduceEqDiff,Nat.reduceLT]
   replace j8:=qaa j8; subst j8;exact lfj hT8 rfl (wm0 [.d,.k] ⟨rfl,⟨MB.cs ⟨qb1,qb1,qb1,qb1,qb1,qb1⟩,qb1⟩⟩)
  rintro v41 rfl;rw[congrFun hT8 v41];refine zaa ?_;try simp only[rnA,Nat.reduceEqDiff]
  cases c11:v41
  ·rw[c11,cond_false]at j4;try simp only[rnA,Nat.reduceEqDiff,Nat.reduceLT]
   exact⟨(w64 (v26+1)),j4,by rw[hT7]; exact wm0 [.d,.k] ⟨rfl,⟨MB.cs ⟨qb1,qb1,qb1,qb1,qb1,qb1⟩,qb1⟩⟩⟩
  rw[c11,cond_true]at j4;try simp only[rnA,Nat.reduceLT]
  replace j4:=qaa j4; subst j4;dsimp only at h;replace h:=qaa h; subst h;exact za0.ret rfl (.lit _)
 rintro⟨⟩ rfl;dsimp only at h;rw[congrFun hT4 ()];refine zaa ?_;try simp only[rnA,Nat.reduceLT]
 replace h:=qaa h; subst h;exact za0.ret rfl (.lit _)
def zgu(N:Nat)(p0:Int)(p1:Int):Option (S_api_Q×Int):=
bif (p1 == 0)then(
some ((S_api_Q.mk 0 0),2))
else(
(zhD N p0 p1).bind fun r2=>
some (r2.1,r2.2))
theorem zk1{N:Nat}{p0:Int}{p1:Int}{r:(S_api_Q×Int)}(h:zgu N p0 p1=some r):Lx.Fn mC 123 [(dI p0),(dI p1)] (.tup [(.agg [(dI r.1.n),(dI r.1.d)]),(dI r.2)]):=by
 refine fnO (by conv=>lhs; cbv) ?_;unfold zgu at h;refine zaa ?_;try simp only[rnA,Nat.reduceEqDiff,reduceIte,Nat.reduceLT,Nat.reduceAdd,Nat.reduceLeDiff,Nat.reduceMul,Nat.reduceSub,Int.reduceLE,Int.reduceLT,Int.reduceBEq,Nat.reduceBEq,reduceCtorEq,zaH]
 cases c1:(p1 == 0)
 ·rw[c1,cond_false]at h;obtain⟨r2,g3,h⟩:=bind_some h;try simp only[rnA,Nat.reduceEqDiff,reduceIte,Nat.reduceLT,Nat.reduceAdd,Nat.reduceLeDiff,Nat.reduceMul,Nat.reduceSub,Int.reduceLE,Int.reduceLT,Int.reduceBEq,Nat.reduceBEq,reduceCtorEq,zaH,c1]
  refine EvL.fn (zjZ g3) rfl rfl (.cons (.clo rfl rfl (Snps.get .nil) (Snps.get (.cons (.ptr rfl (qac rfl) (fun k d d' h1 h2=>(Snps.get (.cons (.lit _) .nil)) k d d' (by rwa [qay]at h1) h2)) (.cons (.ptr rfl (qac rfl) (fun k d d' h1 h2=>(Snps.get (.cons (.lit _) .nil)) k d d' (by rwa [qay]at h1) h2)) .nil)))) .nil) ?_;try simp only[rnA,Nat.reduceEqDiff,reduceIte,Nat.reduceLT,Nat.reduceAdd,Nat.reduceLeDiff,Nat.reduceMul,Nat.reduceSub,Int.reduceLE,Int.reduceLT,Int.reduceBEq,Nat.reduceBEq,reduceCtorEq,zaH,c1]
  replace h:=qaa h; subst h;exact za0.ret rfl (Snp.zb7 (.cons (.za8 (.cons (.lit _) (.cons (.lit _) .nil))) (.cons (.lit _) .nil)))
 rw[c1,cond_true]at h;try simp only[rnA,Nat.reduceEqDiff,reduceIte,Nat.reduceLT,Nat.reduceAdd,Nat.reduceLeDiff,Nat.reduceMul,Nat.reduceSub,Int.reduceLE,Int.reduceLT,Int.reduceBEq,Nat.reduceBEq,reduceCtorEq,zaH,c1]
 replace h:=qaa h; subst h;exact za0.ret rfl (Snp.zb7 (.cons (.za8 (.cons (.lit _) (.cons (.lit _) .nil))) (.cons (.lit _) .nil)))
def zdb(p0:Int):Option Bool:=
some false
theorem zft{p0:Int}{r:Bool}(h:zdb p0=some r):Lx.Fn mC 175 [(dI p0)] (dB r):=by
 refine fnO (by conv=>lhs; cbv) ?_;unfold zdb at h;refine zaa ?_;try simp only[rnA,Nat.reduceEqDiff,reduceIte,Nat.reduceLT,Nat.reduceAdd,Nat.reduceLeDiff,Nat.reduceMul,Nat.reduceSub,Int.reduceLE,Int.reduceLT,Int.reduceBEq,Nat.reduceBEq,reduceCtorEq]
 replace h:=qaa h; subst h;exact za0.ret rfl (.lit _)
def zeM(p0:Int)(p1:Int):Option Bool:=
(((zdb p0).bind fun r1=>
bif r1 then(
(zdb p1).bind fun r4=>
bif r4 then(
some (decide (p0<p1)))
else(
some true))
else(
some (decide (p0<p1))):Option Bool)).bind fun v4=>
some v4
theorem zie{p0:Int}{p1:Int}{r:Bool}(h:zeM p0 p1=some r):Lx.Fn mC 158 [(dI p0),(dI p1)] (dB r):=by
 refine fnO (by conv=>lhs; cbv) ?_;unfold zeM at h;refine zaa ?_;try simp only[rnA,Nat.reduceEqDiff,reduceIte,Nat.reduceLT,Nat.reduceAdd,Nat.reduceLeDiff,Nat.reduceMul,Nat.reduceSub,Int.reduceLE,Int.reduceLT,Int.reduceBEq,Nat.reduceBEq,reduceCtorEq]
 obtain⟨o1,j1,h⟩:=bind_some h;obtain⟨T1,hT1⟩:=mkT fun a:Bool=>⟨17,[(4,(dB a))],[]⟩
 refine EvL.jn T1 (fun a=>a=o1) ?_ ?_
 ·refine zaa ?_;obtain⟨r1,g2,j1⟩:=bind_some j1;try simp only[rnA,Nat.reduceEqDiff,reduceIte,Nat.reduceLT,Nat.reduceAdd,Nat.reduceLeDiff,Nat.reduceMul,Nat.reduceSub,Int.reduceLE,Int.reduceLT,Int.reduceBEq,Nat.reduceBEq,reduceCtorEq]
  refine EvL.fn (zft g2) rfl rfl (.cons (.lit _) .nil) ?_;try simp only[rnA,Nat.reduceEqDiff,reduceIte,Nat.reduceLT,Nat.reduceAdd,Nat.reduceLeDiff,Nat.reduceMul,Nat.reduceSub,Int.reduceLE,Int.reduceLT,Int.reduceBEq,Nat.reduceBEq,reduceCtorEq]
  cases c3:r1
  ·rw[c3,cond_false]at j1;try simp only[rnA,Nat.reduceEqDiff,reduceIte,Nat.reduceLT,Nat.reduceAdd,Nat.reduceLeDiff,Nat.reduceMul,Nat.reduceSub,Int.reduceLE,Int.reduceLT,Int.reduceBEq,Nat.reduceBEq,reduceCtorEq,c3]
   refine EvL.skip rfl ?_;try simp only[rnA,Nat.reduceEqDiff,reduceIte,Nat.reduceLT,Nat.reduceAdd,Nat.reduceLeDiff,Nat.reduceMul,Nat.reduceSub,Int.reduceLE,Int.reduceLT,Int.reduceBEq,Nat.reduceBEq,reduceCtorEq,c3]
   replace j1:=qaa j1; subst j1;exact lfj hT1 rfl (wm0 [] (by exact trivial))
  rw[c3,cond_true]at j1;obtain⟨r4,g5,j1⟩:=bind_some j1;try simp only[rnA,Nat.reduceEqDiff,reduceIte,Nat.reduceLT,Nat.reduceAdd,Nat.reduceLeDiff,Nat.reduceMul,Nat.reduceSub,Int.reduceLE,Int.reduceLT,Int.reduceBEq,Nat.reduceBEq,reduceCtorEq,c3]
  refine EvL.fn (zft g5) rfl rfl (.cons (.lit _) .nil) ?_;try simp only[rnA,Nat.reduceEqDiff,reduceIte,Nat.reduceLT,Nat.reduceAdd,Nat.reduceLeDiff,Nat.reduceMul,Nat.reduceSub,Int.reduceLE,Int.reduceLT,Int.reduceBEq,Nat.reduceBEq,reduceCtorEq,c3]
  cases c6:r4
  ·rw[c6,cond_false]at j1;try simp only[rnA,Nat.reduceEqDiff,reduceIte,Nat.reduceLT,Nat.reduceAdd,Nat.reduceLeDiff,Nat.reduceMul,Nat.reduceSub,Int.reduceLE,Int.reduceLT,Int.reduceBEq,Nat.reduceBEq,reduceCtorEq,c3,c6]
   replace j1:=qaa j1; subst j1;exact lfj hT1 rfl (wm0 [] (by exact trivial))
  rw[c6,cond_true]at j1;try simp only[rnA,Nat.reduceEqDiff,reduceIte,Nat.reduceLT,Nat.reduceAdd,Nat.reduceLeDiff,Nat.reduceMul,Nat.reduceSub,Int.reduceLE,Int.reduceLT,Int.reduceBEq,Nat.reduceBEq,reduceCtorEq,c3,c6]
  replace j1:=qaa j1; subst j1;exact lfj hT1 rfl (wm0 [] (by exact trivial))
 rintro v4 rfl;rw[congrFun hT1 v4];refine zaa ?_;try simp only[rnA,Nat.reduceEqDiff,reduceIte,Nat.reduceLT,Nat.reduceAdd,Nat.reduceLeDiff,Nat.reduceMul,Nat.reduceSub,Int.reduceLE,Int.reduceLT,Int.reduceBEq,Nat.reduceBEq,reduceCtorEq]
 replace h:=qaa h; subst h;exact za0.ret rfl (.lit _)
def zcu(p0:Int):Option Bool:=
some false
theorem zeg{p0:Int}{r:Bool}(h:zcu p0=some r):Lx.Fn mC 176 [(dI p0)] (dB r):=by
 refine fnO (by conv=>lhs; cbv) ?_;unfold zcu at h;refine zaa ?_;try simp only[rnA,Nat.reduceEqDiff,reduceIte,Nat.reduceLT,Nat.reduceAdd,Nat.reduceLeDiff,Nat.reduceMul,Nat.reduceSub,Int.reduceLE,Int.reduceLT,Int.reduceBEq,Nat.reduceBEq,reduceCtorEq]
 replace h:=qaa h; subst h;exact za0.ret rfl (.lit _)
def zaE(p0:(List Int))(p1:Int):Nat→Int→Int→Option Int
 | 0,_,_=>none
 | n+1,v7,v8=>(
bif (decide (v7<v8))then(
(zl2 .u64 (IntKind.u64.wrap (w64 (v7+v8))) 1).bind fun q2=>
(za6 p0 (w64 q2)).bind fun x4=>
(zeM x4 p1).bind fun r6=>
bif r6 then(
zaE p0 p1 n (w64 ((w64 q2)+1)) v8)
else(
zaE p0 p1 n v7 (w64 q2)))
else(
some v7))
def zbz(p0:(List Int))(p1:Int):Option (Int×Bool):=
((zaE p0 p1 ((p0.length:Int) - 0+2:Int).toNat 0 (p0.length:Int):Option Int)).bind fun v7=>
((bif (decide (v7<(p0.length:Int)))then(
(za6 p0 v7).bind fun x10=>
bif (x10 == p1)then(
some true)
else(
(zcu x10).bind fun r13=>
bif r13 then(
(zcu p1).bind fun r16=>
some r16)
else(
some false)))
else(
some false):Option Bool)).bind fun v5=>
some (v7,v5)
theorem zdT{p0:(List Int)}{p1:Int}{r:(Int×Bool)}(h:zbz p0 p1=some r):Lx.Fn mC 164 [(fzE false (eI .i64) p0),(dI p1)] (.tup [(dI r.1),(dB r.2)]):=by
 refine fnO (by conv=>lhs; cbv) ?_;unfold zbz at h;refine zaa ?_;try simp only[rnA,Nat.reduceEqDiff,Nat.reduceLT,Nat.reduceAdd,reduceCtorEq,zam]
 obtain⟨o1,j1,h⟩:=bind_some h;obtain⟨T1,hT1⟩:=mkT fun a:Int=>⟨54,[(0,(fzE false (eI .i64) p0)),(1,(dI p1)),(6,(dI (p0.length:Int))),(7,(dI a))],[]⟩
 refine EvL.jn T1 (fun a=>a=o1) ?_ ?_
 ·refine zaa ?_;simp only[rnA];obtain⟨T2,hT2⟩:=mkT fun a:(Int×Int)=>⟨54,[(0,(fzE false (eI .i64) p0)),(1,(dI p1)),(6,(dI (p0.length:Int))),(7,(dI a.1)),(8,(dI a.2))],[]⟩
  refine EvL.rounds (α:=(Int×Int)) T2 (fun n a=>zaE p0 p1 n a.1 a.2=some o1) ((p0.length:Int) - 0+2:Int).toNat (0,(p0.length:Int)) (by rw[hT2]; exact wm0 [] (by exact trivial)) j1 (fun _ h=>nomatch (show(none:Option Int)=some o1 from h)) ?_;rintro n ⟨v7,v8⟩ j1;simp only[zaE]at j1;rw[congrFun hT2 (v7,v8)];refine zaa ?_;try simp only[rnA,Nat.reduceEqDiff,Nat.reduceLT,reduceCtorEq]
  cases c1:(decide (v7<v8))
  ·rw[c1,cond_false]at j1;try simp only[rnA]
   replace j1:=qaa j1; subst j1;exact lfj hT1 rfl (wm0 [] (by exact trivial))
  rw[c1,cond_true]at j1;obtain⟨q2,g3,j1⟩:=bind_some j1;obtain⟨x4,g5,j1⟩:=bind_some j1;obtain⟨r6,g7,j1⟩:=bind_some j1;try simp only[rnA,Nat.reduceEqDiff,Nat.reduceLT,reduceCtorEq,(zaQ g3).1,(zaQ g3).2,zak (n:=1) (e:=(eI .i64)) rfl g5]
  refine EvL.fn (zie g7) rfl rfl (.cons (.lit _) (.cons (.lit _) .nil)) ?_;try simp only[rnA,Nat.reduceEqDiff,Nat.reduceLT,reduceCtorEq]
  cases c8:r6
  ·rw[c8,cond_false]at j1;try simp only[rnA,Nat.reduceEqDiff,Nat.reduceLT,reduceCtorEq]
   exact⟨(v7,(w64 q2)),j1,by rw[hT2]; exact wm0 [] (by exact trivial)⟩
  rw[c8,cond_true]at j1;try simp only[rnA,Nat.reduceEqDiff,Nat.reduceLT,reduceCtorEq]
  exact⟨((w64 ((w64 q2)+1)),v8),j1,by rw[hT2]; exact wm0 [] (by exact trivial)⟩
 rintro v7 rfl;rw[congrFun hT1 v7];refine zaa ?_;try simp only[rnA]
 obtain⟨o3,j3,h⟩:=bind_some h;obtain⟨T3,hT3⟩:=mkT fun a:Bool=>⟨54,[(4,(dI v7)),(5,(dB a))],[]⟩
 refine EvL.jn T3 (fun a=>a=o3) ?_ ?_
 ·refine zaa ?_;try simp only[rnA,Nat.reduceEqDiff,Nat.reduceLT,reduceCtorEq]
  cases c9:(decide (v7<(p0.length:Int)))
  ·rw[c9,cond_false]at j3;try simp only[rnA,Nat.reduceEqDiff,Nat.reduceLT,reduceCtorEq]
   refine EvL.skip rfl ?_;try simp only[rnA,Nat.reduceEqDiff,Nat.reduceLT,reduceCtorEq]
   refine EvL.skip rfl ?_;try simp only[rnA,Nat.reduceEqDiff,Nat.reduceLT,reduceCtorEq]
   replace j3:=qaa j3; subst j3;exact lfj hT3 rfl (wm0 [] (by exact trivial))
  rw[c9,cond_true]at j3;obtain⟨x10,g11,j3⟩:=bind_some j3;try simp only[rnA,Nat.reduceEqDiff,Nat.reduceLT,reduceCtorEq,zak (n:=1) (e:=(eI .i64)) rfl g11]
  cases c12:(x10 == p1)
  ·rw[c12,cond_false]at j3;obtain⟨r13,g14,j3⟩:=bind_some j3;try simp only[rnA,Nat.reduceEqDiff,Nat.reduceLT,reduceCtorEq,zak (n:=1) (e:=(eI .i64)) rfl g11]
   refine EvL.fn (zeg g14) rfl rfl (.cons (.lit _) .nil) ?_;try simp only[rnA,Nat.reduceEqDiff,Nat.reduceLT,reduceCtorEq]
   cases c15:r13
   ·rw[c15,cond_false]at j3;try simp only[rnA,Nat.reduceLT]
    refine EvL.skip rfl ?_;try simp only[rnA,Nat.reduceEqDiff,Nat.reduceLT,reduceCtorEq]
    replace j3:=qaa j3; subst j3;exact lfj hT3 rfl (wm0 [] (by exact trivial))
   rw[c15,cond_true]at j3;obtain⟨r16,g17,j3⟩:=bind_some j3;try simp only[rnA,Nat.reduceEqDiff,Nat.reduceLT,reduceCtorEq]
   refine EvL.fn (zeg g17) rfl rfl (.cons (.lit _) .nil) ?_;try simp only[rnA,Nat.reduceEqDiff,Nat.reduceLT,reduceCtorEq]
   replace j3:=qaa j3; subst j3;exact lfj hT3 rfl (wm0 [] (by exact trivial))
  rw[c12,cond_true]at j3;try simp only[rnA,Nat.reduceEqDiff,Nat.reduceLT,reduceCtorEq]
  refine EvL.skip rfl ?_;try simp only[rnA,Nat.reduceEqDiff,Nat.reduceLT,reduceCtorEq]
  refine EvL.skip rfl ?_;try simp only[rnA,Nat.reduceEqDiff,Nat.reduceLT,reduceCtorEq]
  replace j3:=qaa j3; subst j3;exact lfj hT3 rfl (wm0 [] (by exact trivial))
 rintro v5 rfl;rw[congrFun hT3 v5];refine zaa ?_;try simp only[rnA]
 replace h:=qaa h; subst h;exact za0.ret rfl (Snp.zb7 (.cons (.lit _) (.cons (.lit _) .nil)))
def zch(p1:(List Int))(v11:Int)(v12:Int)(p3:Int)(p2:(List Int))(p4:Int):Nat→Int→Option (Out3 Unit (Int×Int) Int)
 | 0,_=>none
 | n+1,v20=>(
bif (decide (v20<(p1.length:Int)))then(
(zl2 .u64 (ztb .u64 (orI .u64 v11 v12) p3) v20).bind fun q4=>
((bif ((zi0 .u64 q4 1)== 1)then(
(za6 p2 v20).bind fun x7=>
some (orI .u64 v11 x7))
else(
some v11):Option Int)).bind fun v14=>
(zl2 .u64 (orI .u64 (zi0 .u64 v11 p4) (ztb .u64 v12 p3)) v20).bind fun q9=>
((bif ((zi0 .u64 q9 1)== 1)then(
(za6 p1 v20).bind fun x12=>
some (orI .u64 v12 x12))
else(
some v12):Option Int)).bind fun v15=>
((bif (v14 == v11)then(
some (!(v15 == v12)))
else(
some true):Option Bool)).bind fun v64=>
bif v64 then(
some (.brk (v14,v15)))
else(
zch p1 v11 v12 p3 p2 p4 n (w64 (v20+1))))
else(
some (.go ())))
def zcd(p1:(List Int))(p3:Int)(p2:(List Int))(p4:Int):Nat→Int→Int→Option (Out Unit Int)
 | 0,_,_=>none
 | n+1,v11,v12=>(
((zch p1 v11 v12 p3 p2 p4 ((p1.length:Int) - 0+2:Int).toNat 0:Option (Out3 Unit (Int×Int) Int))).bind fun o=>match o with
| .go _=>(
some (.ret (ztb .u64 (orI .u64 v11 v12) p3)))
| .brk (v11',v12')=>(
zcd p1 p3 p2 p4 n v11' v12')
| .ret r=>some (.ret r))
def zdl(N:Nat)(p0:Int)(p1:(List Int))(p2:(List Int))(p3:Int)(p4:Int):Option Int:=
(znt .u64 1 p0).bind fun q1=>
((zcd p1 p3 p2 p4 N q1 0:Option (Out Unit Int))).bind fun o=>match o with
| .go _=>(
none)
| .ret r=>some r
theorem zgz{N:Nat}{p0:Int}{p1:(List Int)}{p2:(List Int)}{p3:Int}{p4:Int}{r:Int}(h:zdl N p0 p1 p2 p3 p4=some r):Lx.Fn mC 124 [(dI p0),(fzE false (eI .u64) p1),(fzE false (eI .u64) p2),(dU p3),(dU p4)] (dU r):=by
 refine fnO (by conv=>lhs; cbv) ?_;unfold zdl at h;refine zaa ?_;try simp only[rnA,Nat.reduceLT,Nat.reduceAdd]
 refine EvL.scope (zaa ?_);obtain⟨q1,g2,h⟩:=bind_some h;try simp only[rnA,Nat.reduceEqDiff,Nat.reduceLT,reduceCtorEq,(za5 g2).1,(za5 g2).2]
 obtain⟨o210,j210,h⟩:=bind_some h;obtain⟨T210,hT210⟩:=mkT fun a:Unit=>⟨73,[],[]⟩
 refine EvL.jn T210 (fun a=>o210=.go a) ?_ ?_
 ·refine zaa ?_;simp only[rnA];obtain⟨T257,hT257⟩:=mkT fun a:(Int×Int)=>⟨73,[(1,(fzE false (eI .u64) p1)),(2,(fzE false (eI .u64) p2)),(3,(dU p3)),(4,(dU p4)),(11,(dU a.1)),(12,(dU a.2))],[]⟩
  refine EvL.rounds (α:=(Int×Int)) T257 (fun n a=>zcd p1 p3 p2 p4 n a.1 a.2=some o210) N (q1,0) (by rw[hT257]; exact wm0 [] (by exact trivial)) j210 (fun _ h=>nomatch (show(none:Option (Out Unit Int))=some o210 from h)) ?_;rintro n ⟨v11,v12⟩ j210;simp only[zcd]at j210;rw[congrFun hT257 (v11,v12)];refine zaa ?_;try simp only[rnA,Nat.reduceEqDiff,Nat.reduceLT,zam]
  obtain⟨o270,j270,j210⟩:=bind_some j210;obtain⟨T270,hT270⟩:=mkT fun a:Unit=>⟨73,[(3,(dU p3)),(11,(dU v11)),(12,(dU v12))],[]⟩
  obtain⟨TB270,hTB270⟩:∃ T:(Int×Int)→LSt,T=(fun a=>⟨73,[(1,(fzE false (eI .u64) p1)),(2,(fzE false (eI .u64) p2)),(3,(dU p3)),(4,(dU p4)),(11,(dU a.1)),(12,(dU a.2))],[]⟩):=⟨_,rfl⟩;refine EvL.jn2 (id:=1) T270 (fun a=>o270=.go a) TB270 (fun a=>o270=.brk a) (fun id S hx=>by first | (rcases hx with⟨hx | hx,_⟩<;> cases hx)| exact hx.elim) ?_ ?_ ?_
  ·refine zaa ?_;simp only[rnA];obtain⟨T277,hT277⟩:=mkT fun a:Int=>⟨73,[(1,(fzE false (eI .u64) p1)),(2,(fzE false (eI .u64) p2)),(3,(dU p3)),(4,(dU p4)),(11,(dU v11)),(12,(dU v12)),(19,(dI (p1.length:Int))),(20,(dI a))],[]⟩
   refine EvL.rounds (α:=Int) T277 (fun n a=>zch p1 v11 v12 p3 p2 p4 n a=some o270) ((p1.length:Int) - 0+2:Int).toNat 0 (by rw[hT277]; exact wm0 [] (by exact trivial)) j270 (fun _ h=>nomatch (show(none:Option (Out3 Unit (Int×Int) Int))=some o270 from h)) ?_;rintro n v20 j270;simp only[zch]at j270;rw[congrFun hT277 v20];refine zaa ?_;try simp only[rnA,Nat.reduceEqDiff,Nat.reduceLT]
   cases c3:(decide (v20<(p1.length:Int)))
   ·rw[c3,cond_false]at j270;try simp only[rnA,Nat.reduceEqDiff]
    replace j270:=qaa j270; subst j270;exact lfj hT270 rfl (wm0 [] (by exact trivial))
   rw[c3,cond_true]at j270;obtain⟨q4,g5,j270⟩:=bind_some j270;try simp only[rnA,Nat.reduceEqDiff,Nat.reduceLT,(zaQ g5).1,(zaQ g5).2]
   obtain⟨o278,j278,j270⟩:=bind_some j270;obtain⟨T278,hT278⟩:=mkT fun a:Int=>⟨73,[(1,(fzE false (eI .u64) p1)),(2,(fzE false (eI .u64) p2)),(3,(dU p3)),(4,(dU p4)),(11,(dU v11)),(12,(dU v12)),(13,(dI v20)),(14,(dU a)),(15,(dU v12)),(19,(dI (p1.length:Int))),(20,(dI v20))],[]⟩
   refine EvL.jn T278 (fun a=>a=o278) ?_ ?_
   ·refine zaa ?_;try simp only[rnA,Nat.reduceEqDiff]
    cases c6:((zi0 .u64 q4 1)== 1)
    ·rw[c6,cond_false]at j278;try simp only[rnA]
     replace j278:=qaa j278; subst j278;exact lfj hT278 rfl (wm0 [] (by exact trivial))
    rw[c6,cond_true]at j278;obtain⟨x7,g8,j278⟩:=bind_some j278;try simp only[rnA,Nat.reduceEqDiff,Nat.reduceLT,zak (n:=1) (e:=(eI .u64)) rfl g8]
    replace j278:=qaa j278; subst j278;exact lfj hT278 rfl (wm0 [] (by exact trivial))
   rintro v14 rfl;rw[congrFun hT278 v14];refine zaa ?_;obtain⟨q9,g10,j270⟩:=bind_some j270;try simp only[rnA,Nat.reduceEqDiff,Nat.reduceLT,(zaQ g10).1,(zaQ g10).2]
   obtain⟨o279,j279,j270⟩:=bind_some j270;obtain⟨T279,hT279⟩:=mkT fun a:Int=>⟨73,[(1,(fzE false (eI .u64) p1)),(2,(fzE false (eI .u64) p2)),(3,(dU p3)),(4,(dU p4)),(11,(dU v11)),(12,(dU v12)),(14,(dU v14)),(15,(dU a)),(19,(dI (p1.length:Int))),(20,(dI v20))],[]⟩
   refine EvL.jn T279 (fun a=>a=o279) ?_ ?_
   ·refine zaa ?_;try simp only[rnA,Nat.reduceEqDiff]
    cases c11:((zi0 .u64 q9 1)== 1)
    ·rw[c11,cond_false]at j279;try simp only[rnA]
     replace j279:=qaa j279; subst j279;exact lfj hT279 rfl (wm0 [] (by exact trivial))
    rw[c11,cond_true]at j279;obtain⟨x12,g13,j279⟩:=bind_some j279;try simp only[rnA,Nat.reduceEqDiff,Nat.reduceLT,zak (n:=1) (e:=(eI .u64)) rfl g13]
    replace j279:=qaa j279; subst j279;exact lfj hT279 rfl (wm0 [] (by exact trivial))
   rintro v15 rfl;rw[congrFun hT279 v15];refine zaa ?_;try simp only[rnA]
   obtain⟨o280,j280,j270⟩:=bind_some j270;obtain⟨T280,hT280⟩:=mkT fun a:Bool=>⟨73,[(1,(fzE false (eI .u64) p1)),(2,(fzE false (eI .u64) p2)),(3,(dU p3)),(4,(dU p4)),(11,(dU v11)),(12,(dU v12)),(14,(dU v14)),(15,(dU v15)),(19,(dI (p1.length:Int))),(20,(dI v20)),(64,(dB a))],[]⟩
   refine EvL.jn T280 (fun a=>a=o280) ?_ ?_
   ·refine zaa ?_;try simp only[rnA,Nat.reduceEqDiff,Nat.reduceLT]
    cases c14:(v14 == v11)
    ·rw[c14,cond_false]at j280;try simp only[rnA,Nat.reduceEqDiff,Nat.reduceLT]
     replace j280:=qaa j280; subst j280;exact lfj hT280 rfl (wm0 [] (by exact trivial))
    rw[c14,cond_true]at j280;try simp only[rnA,Nat.reduceEqDiff,Nat.reduceLT]
    replace j280:=qaa j280; subst j280;exact lfj hT280 rfl (wm0 [] (by exact trivial))
   rintro v64 rfl;rw[congrFun hT280 v64];refine zaa ?_;try simp only[rnA,Nat.reduceEqDiff]
   cases c15:v64
   ·rw[c15,cond_false]at j270;try simp only[rnA,Nat.reduceEqDiff,Nat.reduceLT]
    exact⟨(w64 (v20+1)),j270,by rw[hT277]; exact wm0 [] (by exact trivial)⟩
   rw[c15,cond_true]at j270;try simp only[rnA,Nat.reduceEqDiff,Nat.reduceLT]
   replace j270:=qaa j270; subst j270;exact⟨_,rfl,by rw[hTB270]; exact wm0 [] (by exact trivial)⟩
  ·rintro⟨⟩ rfl;dsimp only at j210;rw[congrFun hT270 ()];refine zaa ?_;try simp only[rnA,Nat.reduceEqDiff,Nat.reduceLT]
   replace j210:=qaa j210; subst j210;dsimp only at h;replace h:=qaa h; subst h;exact za0.ret rfl (.lit _)
  rintro⟨v11',v12'⟩ rfl;dsimp only at j210;rw[congrFun hTB270 (v11',v12')];refine zaa ?_;try simp only[rnA,reduceCtorEq]
  exact⟨(v11',v12'),j210,by rw[hT257]; exact wm0 [] (by exact trivial)⟩
 rintro⟨⟩ rfl;dsimp only at h;exact nomatch h
def zeG(p0:(List Int)):Nat→Int→Int→Option Int
 | 0,_,_=>none
 | n+1,v4,v5=>(
bif (decide (0≤v5))then(
(za6 p0 v5).bind fun x7=>
zeG p0 n (w64 ((w64 (10000 * v4))+x7)) (w64 (v5 - 1)))
else(
some v4))
def zff(N:Nat)(p0:(List Int)):Option (Int×Bool):=
(zbu N 4611686018427387903).bind fun r1=>
(zcg p0 r1).bind fun r3=>
bif (decide (0<r3))then(
some (0,false))
else(
((zeG p0 ((w64 ((p0.length:Int) - 1)) - 0+2:Int).toNat 0 (w64 ((p0.length:Int) - 1)):Option Int)).bind fun v4=>
some (v4,true))
theorem zhA{N:Nat}{p0:(List Int)}{r:(Int×Bool)}(h:zff N p0=some r):Lx.Fn mC 168 [(fzE false (eI .i64) p0)] (.tup [(dI r.1),(dB r.2)]):=by
 refine fnO (by conv=>lhs; cbv) ?_;unfold zff at h;refine zaa ?_;obtain⟨r1,g2,h⟩:=bind_some h;try simp only[rnA,Nat.reduceLT,reduceCtorEq]
 refine EvL.fn (zbG g2) rfl rfl (.cons (.lit _) .nil) ?_;obtain⟨r3,g4,h⟩:=bind_some h;try simp only[rnA,Nat.reduceLT]
 refine EvL.fn (zcO g4) rfl rfl (.cons (zad _ _ (fun h=>nomatch h)) (.cons (zad _ _ (fun h=>nomatch h)) .nil)) ?_;try simp only[rnA,Nat.reduceEqDiff,Nat.reduceLT,reduceCtorEq]
 cases c5:(decide (0<r3))
 ·rw[c5,cond_false]at h;try simp only[rnA,Nat.reduceEqDiff,Nat.reduceLT,reduceCtorEq,zam]
  obtain⟨o1,j1,h⟩:=bind_some h;obtain⟨T1,hT1⟩:=mkT fun a:Int=>⟨25,[(4,(dI a))],[]⟩
  refine EvL.jn T1 (fun a=>a=o1) ?_ ?_
  ·refine zaa ?_;simp only[rnA];obtain⟨T2,hT2⟩:=mkT fun a:(Int×Int)=>⟨25,[(0,(fzE false (eI .i64) p0)),(4,(dI a.1)),(5,(dI a.2))],[]⟩
   refine EvL.rounds (α:=(Int×Int)) T2 (fun n a=>zeG p0 n a.1 a.2=some o1) ((w64 ((p0.length:Int) - 1)) - 0+2:Int).toNat (0,(w64 ((p0.length:Int) - 1))) (by rw[hT2]; exact wm0 [] (by exact trivial)) j1 (fun _ h=>nomatch (show(none:Option Int)=some o1 from h)) ?_;rintro n ⟨v4,v5⟩ j1;simp only[zeG]at j1;rw[congrFun hT2 (v4,v5)];refine zaa ?_;try simp only[rnA,Nat.reduceEqDiff,Nat.reduceLT,reduceCtorEq]
   cases c6:(decide (0≤v5))
   ·rw[c6,cond_false]at j1;try simp only[rnA]
    replace j1:=qaa j1; subst j1;exact lfj hT1 rfl (wm0 [] (by exact trivial))
   rw[c6,cond_true]at j1;obtain⟨x7,g8,j1⟩:=bind_some j1;try simp only[rnA,Nat.reduceEqDiff,Nat.reduceLT,reduceCtorEq,zak (n:=1) (e:=(eI .i64)) rfl g8]
   exact⟨((w64 ((w64 (10000 * v4))+x7)),(w64 (v5 - 1))),j1,by rw[hT2]; exact wm0 [] (by exact trivial)⟩
  rintro v4 rfl;rw[congrFun hT1 v4];refine zaa ?_;try simp only[rnA,Nat.reduceEqDiff,Nat.reduceLT]
  replace h:=qaa h; subst h;exact za0.ret rfl (Snp.zb7 (.cons (.lit _) (.cons (.lit _) .nil)))
 rw[c5,cond_true]at h;try simp only[rnA,Nat.reduceLT]
 replace h:=qaa h; subst h;exact za0.ret rfl (Snp.zb7 (.cons (.lit _) (.cons (.lit _) .nil)))
def zec(N:Nat)(p0:Bool)(p1:(List Int))(p2:(List Int)):Option (S_api_Q×Bool):=
(ziv N p1 p2).bind fun r1=>
(zdP N p1 r1).bind fun r3=>
(zdP N p2 r1).bind fun r5=>
(zff N r3.1).bind fun r7=>
(zff N r5.1).bind fun r9=>
((bif r7.2 then(
some (!r9.2))
else(
some true):Option Bool)).bind fun v43=>
bif v43 then(
some ((S_api_Q.mk 0 0),false))
else(
((bif p0 then(
some (w64 (0 - r7.1)))
else(
some r7.1):Option Int)).bind fun v9=>
some ((S_api_Q.mk v9 r9.1),true))
theorem ze5{N:Nat}{p0:Bool}{p1:(List Int)}{p2:(List Int)}{r:(S_api_Q×Bool)}(h:zec N p0 p1 p2=some r):Lx.Fn mC 147 [(dB p0),(fzE false (eI .i64) p1),(fzE false (eI .i64) p2)] (.tup [(.agg [(dI r.1.n),(dI r.1.d)]),(dB r.2)]):=by
 refine fnO (by conv=>lhs; cbv) ?_;unfold zec at h;refine zaa ?_;obtain⟨r1,g2,h⟩:=bind_some h;try simp only[rnA,Nat.reduceEqDiff,Nat.reduceLT,Nat.reduceAdd,reduceCtorEq]
 refine EvL.fnS (znw g2) rfl rfl (.cons (zal _ _ (fun h=>by cases h<;>contradiction)) (.cons (zal _ _ (fun h=>by cases h<;>contradiction)) .nil)) ⟨(zae _ _),(zae _ _),qb1⟩ (zae _ _) ?_;obtain⟨r3,g4,h⟩:=bind_some h;try simp only[rnA,Nat.reduceEqDiff,Nat.reduceLT,reduceCtorEq]
 refine EvL.fnS (zfn g4) rfl rfl (.cons (zal _ _ (fun h=>by cases h<;>contradiction)) (.cons (zal _ _ (fun h=>by cases h<;>contradiction)) .nil)) ⟨(zae _ _),(zae _ _),qb1⟩ ⟨(zae _ _),(zae _ _),qb1⟩ ?_;obtain⟨r5,g6,h⟩:=bind_some h;try simp only[rnA,Nat.reduceEqDiff,Nat.reduceLT,reduceCtorEq]
 refine EvL.fnS (zfn g6) rfl rfl (.cons (zal _ _ (fun h=>by cases h<;>contradiction)) (.cons (zal _ _ (fun h=>by cases h<;>contradiction)) .nil)) ⟨(zae _ _),(zae _ _),qb1⟩ ⟨(zae _ _),(zae _ _),qb1⟩ ?_;obtain⟨r7,g8,h⟩:=bind_some h;try simp only[rnA,Nat.reduceEqDiff,Nat.reduceLT,reduceCtorEq]
 refine EvL.fn (zhA g8) rfl rfl (.cons (zad _ _ (fun h=>nomatch h)) .nil) ?_;obtain⟨r9,g10,h⟩:=bind_some h;try simp only[rnA,Nat.reduceEqDiff,Nat.reduceLT,reduceCtorEq]
 refine EvL.fn (zhA g10) rfl rfl (.cons (zad _ _ (fun h=>nomatch h)) .nil) ?_;try simp only[rnA,Nat.reduceEqDiff,Nat.reduceLT,reduceCtorEq]
 obtain⟨o1,j1,h⟩:=bind_some h;obtain⟨T1,hT1⟩:=mkT fun a:Bool=>⟨51,[(0,(dB p0)),(6,(.ptr 0 0)),(9,(dI r7.1)),(11,(dI r9.1)),(43,(dB a))],[.cells [(dI 0),(dI 0)]]⟩
 refine EvL.jn T1 (fun a=>a=o1) ?_ ?_
 ·refine zaa ?_;try simp only[rnA,Nat.reduceEqDiff,Nat.reduceLT,reduceCtorEq]
  cases c11:r7.2
  ·rw[c11,cond_false]at j1;try simp only[rnA,Nat.reduceEqDiff,Nat.reduceLT,reduceCtorEq]
   replace j1:=qaa j1; subst j1;exact lfj hT1 rfl (wm0 [.k] ⟨MB.cs ⟨qb1,qb1,qb1⟩,qb1⟩)
  rw[c11,cond_true]at j1;try simp only[rnA,Nat.reduceEqDiff,Nat.reduceLT,reduceCtorEq]
  replace j1:=qaa j1; subst j1;exact lfj hT1 rfl (wm0 [.k] ⟨MB.cs ⟨qb1,qb1,qb1⟩,qb1⟩)
 rintro v43 rfl;rw[congrFun hT1 v43];refine zaa ?_;try simp only[rnA,Nat.reduceEqDiff,reduceCtorEq]
 cases c12:v43
 ·rw[c12,cond_false]at h;try simp only[rnA,Nat.reduceLT,reduceCtorEq]
  obtain⟨o2,j2,h⟩:=bind_some h;obtain⟨T2,hT2⟩:=mkT fun a:Int=>⟨51,[(6,(.ptr 0 0)),(9,(dI a)),(11,(dI r9.1))],[.cells [(dI 0),(dI 0)]]⟩
  refine EvL.jn T2 (fun a=>a=o2) ?_ ?_
  ·refine zaa ?_;try simp only[rnA,Nat.reduceEqDiff,reduceCtorEq]
   cases c13:p0
   ·rw[c13,cond_false]at j2;try simp only[rnA]
    replace j2:=qaa j2; subst j2;exact lfj hT2 rfl (wm0 [.k] ⟨MB.cs ⟨qb1,qb1,qb1⟩,qb1⟩)
   rw[c13,cond_true]at j2;try simp only[rnA,Nat.reduceEqDiff,Nat.reduceLT,reduceCtorEq]
   replace j2:=qaa j2; subst j2;exact lfj hT2 rfl (wm0 [.k] ⟨MB.cs ⟨qb1,qb1,qb1⟩,qb1⟩)
  rintro v9 rfl;rw[congrFun hT2 v9];refine zaa ?_;try simp only[rnA,Nat.reduceEqDiff,Nat.reduceLT,Nat.reduceAdd,Nat.reduceLeDiff]
  replace h:=qaa h; subst h;exact za0.ret rfl (Snp.zb7 (.cons (.za8 (.cons (.lit _) (.cons (.lit _) .nil))) (.cons (.lit _) .nil)))
 rw[c12,cond_true]at h;try simp only[rnA,Nat.reduceEqDiff,Nat.reduceLT,Nat.reduceAdd,Nat.reduceLeDiff,reduceCtorEq]
 replace h:=qaa h; subst h;exact za0.ret rfl (Snp.zb7 (.cons (.za8 (.cons (.lit _) (.cons (.lit _) .nil))) (.cons (.lit _) .nil)))
def zhu(N:Nat)(p0:Int)(p1:Int):Option (S_api_Q×Bool):=
bif (decide (p0<0))then(
bif (decide (p1<0))then(
(zbu N p0).bind fun r22=>
(zbu N p1).bind fun r24=>
(zec N false r22 r24).bind fun r26=>
some (r26.1,r26.2))
else(
(zbu N p0).bind fun r16=>
(zbu N p1).bind fun r18=>
(zec N true r16 r18).bind fun r20=>
some (r20.1,r20.2)))
else(
bif (decide (p1<0))then(
(zbu N p0).bind fun r9=>
(zbu N p1).bind fun r11=>
(zec N true r9 r11).bind fun r13=>
some (r13.1,r13.2))
else(
(zbu N p0).bind fun r3=>
(zbu N p1).bind fun r5=>
(zec N false r3 r5).bind fun r7=>
some (r7.1,r7.2)))
theorem zl6{N:Nat}{p0:Int}{p1:Int}{r:(S_api_Q×Bool)}(h:zhu N p0 p1=some r):Lx.Fn mC 131 [(dI p0),(dI p1)] (.tup [(.agg [(dI r.1.n),(dI r.1.d)]),(dB r.2)]):=by
 refine fnO (by conv=>lhs; cbv) ?_;unfold zhu at h;refine zaa ?_;try simp only[rnA,Nat.reduceEqDiff,Nat.reduceLT,Nat.reduceAdd,reduceCtorEq]
 cases c1:(decide (p0<0))
 ·rw[c1,cond_false]at h;try simp only[rnA,qbK]
  cases c2:(decide (p1<0))
  ·rw[c2,cond_false]at h;obtain⟨r3,g4,h⟩:=bind_some h;try simp only[rnA,Nat.reduceEqDiff,reduceIte,Nat.reduceLT,Nat.reduceAdd,Nat.reduceLeDiff,Nat.reduceMul,Nat.reduceSub,Int.reduceLE,Int.reduceLT,Int.reduceBEq,Nat.reduceBEq,reduceCtorEq,zaH,qbK,qbT,c1,c2]
   refine EvL.fn (zbG g4) rfl rfl (.cons (.lit _) .nil) ?_;obtain⟨r5,g6,h⟩:=bind_some h;try simp only[rnA,Nat.reduceEqDiff,Nat.reduceLT,reduceCtorEq]
   refine EvL.fn (zbG g6) rfl rfl (.cons (.lit _) .nil) ?_;obtain⟨r7,g8,h⟩:=bind_some h;try simp only[rnA,Nat.reduceLT]
   refine EvL.fn (ze5 g8) rfl rfl (.cons (.lit _) (.cons (zad _ _ (fun h=>nomatch h)) (.cons (zad _ _ (fun h=>nomatch h)) .nil))) ?_;try simp only[rnA,Nat.reduceEqDiff,Nat.reduceLT,Nat.reduceAdd,Nat.reduceLeDiff,reduceCtorEq]
   replace h:=qaa h; subst h;exact za0.ret rfl (Snp.zb7 (.cons (.za8 (.cons (.lit _) (.cons (.lit _) .nil))) (.cons (.lit _) .nil)))
  rw[c2,cond_true]at h;obtain⟨r9,g10,h⟩:=bind_some h;try simp only[rnA,Nat.reduceEqDiff,reduceIte,Nat.reduceLT,Nat.reduceAdd,Nat.reduceLeDiff,Nat.reduceMul,Nat.reduceSub,Int.reduceLE,Int.reduceLT,Int.reduceBEq,Nat.reduceBEq,reduceCtorEq,zaH,qbK,qbT,c1,c2]
  refine EvL.fn (zbG g10) rfl rfl (.cons (.lit _) .nil) ?_;obtain⟨r11,g12,h⟩:=bind_some h;try simp only[rnA,Nat.reduceEqDiff,Nat.reduceLT,reduceCtorEq]
  refine EvL.fn (zbG g12) rfl rfl (.cons (.lit _) .nil) ?_;obtain⟨r13,g14,h⟩:=bind_some h;try simp only[rnA,Nat.reduceLT]
  refine EvL.fn (ze5 g14) rfl rfl (.cons (.lit _) (.cons (zad _ _ (fun h=>nomatch h)) (.cons (zad _ _ (fun h=>nomatch h)) .nil))) ?_;try simp only[rnA,Nat.reduceEqDiff,Nat.reduceLT,Nat.reduceAdd,Nat.reduceLeDiff,reduceCtorEq]
  replace h:=qaa h; subst h;exact za0.ret rfl (Snp.zb7 (.cons (.za8 (.cons (.lit _) (.cons (.lit _) .nil))) (.cons (.lit _) .nil)))
 rw[c1,cond_true]at h;try simp only[qbT]
 cases c15:(decide (p1<0))
 ·rw[c15,cond_false]at h;obtain⟨r16,g17,h⟩:=bind_some h;try simp only[rnA]
  refine EvL.fn (zbG g17) rfl rfl (.cons (.lit _) .nil) ?_;obtain⟨r18,g19,h⟩:=bind_some h;try simp only[rnA,Nat.reduceEqDiff,Nat.reduceLT,reduceCtorEq]
  refine EvL.fn (zbG g19) rfl rfl (.cons (.lit _) .nil) ?_;obtain⟨r20,g21,h⟩:=bind_some h;try simp only[rnA,Nat.reduceLT]
  refine EvL.fn (ze5 g21) rfl rfl (.cons (.lit _) (.cons (zad _ _ (fun h=>nomatch h)) (.cons (zad _ _ (fun h=>nomatch h)) .nil))) ?_;try simp only[rnA,Nat.reduceEqDiff,Nat.reduceLT,Nat.reduceAdd,Nat.reduceLeDiff,reduceCtorEq]
  replace h:=qaa h; subst h;exact za0.ret rfl (Snp.zb7 (.cons (.za8 (.cons (.lit _) (.cons (.lit _) .nil))) (.cons (.lit _) .nil)))
 rw[c15,cond_true]at h;obtain⟨r22,g23,h⟩:=bind_some h;try simp only[rnA]
 refine EvL.fn (zbG g23) rfl rfl (.cons (.lit _) .nil) ?_;obtain⟨r24,g25,h⟩:=bind_some h;try simp only[rnA,Nat.reduceEqDiff,Nat.reduceLT,reduceCtorEq]
 refine EvL.fn (zbG g25) rfl rfl (.cons (.lit _) .nil) ?_;obtain⟨r26,g27,h⟩:=bind_some h;try simp only[rnA,Nat.reduceLT]
 refine EvL.fn (ze5 g27) rfl rfl (.cons (.lit _) (.cons (zad _ _ (fun h=>nomatch h)) (.cons (zad _ _ (fun h=>nomatch h)) .nil))) ?_;try simp only[rnA,Nat.reduceEqDiff,Nat.reduceLT,Nat.reduceAdd,Nat.reduceLeDiff,reduceCtorEq]
 replace h:=qaa h; subst h;exact za0.ret rfl (Snp.zb7 (.cons (.za8 (.cons (.lit _) (.cons (.lit _) .nil))) (.cons (.lit _) .nil)))
def zhV(N:Nat)(p0:Int)(p1:Int):Option S_api_Q:=
(zhu N p0 p1).bind fun r1=>
some r1.1
theorem zkQ{N:Nat}{p0:Int}{p1:Int}{r:S_api_Q}(h:zhV N p0 p1=some r):Lx.Fn mC 101 [(dI p0),(dI p1)] (.agg [(dI r.n),(dI r.d)]):=by
 refine fnO (by conv=>lhs; cbv) ?_;unfold zhV at h;refine zaa ?_;obtain⟨r1,g2,h⟩:=bind_some h;try simp only[rnA,Nat.reduceEqDiff,reduceIte,Nat.reduceLT,Nat.reduceAdd,Nat.reduceLeDiff,Nat.reduceMul,Nat.reduceSub,Int.reduceLE,Int.reduceLT,Int.reduceBEq,Nat.reduceBEq,reduceCtorEq,zaH]
 refine EvL.fn (zl6 g2) rfl rfl (.cons (.lit _) (.cons (.lit _) .nil)) ?_;try simp only[rnA,Nat.reduceEqDiff,reduceIte,Nat.reduceLT,Nat.reduceAdd,Nat.reduceLeDiff,Nat.reduceMul,Nat.reduceSub,Int.reduceLE,Int.reduceLT,Int.reduceBEq,Nat.reduceBEq,reduceCtorEq,zaH]
 replace h:=qaa h; subst h;exact za0.ret rfl (.za8 (.cons (.lit _) (.cons (.lit _) .nil)))
end Go.Dc
