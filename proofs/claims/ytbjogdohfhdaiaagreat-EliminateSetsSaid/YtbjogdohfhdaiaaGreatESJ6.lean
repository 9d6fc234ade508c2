/-
 What net_network_filled computes. Conditions: none.
-/
import Derived.Test.YtbjogdohfhdaiaaGreatESJ5
set_option linter.unusedSimpArgs false
set_option linter.unusedVariables false
set_option maxRecDepth 100000
set_option maxHeartbeats 4000000
namespace Go.Dc
open Go Go.Mx Go.Lx Go.Proofs
def za0(p1:S_api_Node)(p0:S_net_network):Nat→Int→Int→Option Int
 | 0,_,_=>none
 | n+1,v5,v16=>(
bif (decide (v16<(p1.parents.length:Int)))then(
(za3 p1.parents v16).bind fun x2=>
(za3 p0.zay x2).bind fun x4=>
za0 p1 p0 n (w64 (v5 * x4)) (w64 (v16+1)))
else(
some v5))
def zaZ(y11:(Int×(List Int))):Nat→Int→Int→Option (Out Int Bool)
 | 0,_,_=>none
 | n+1,v10,v42=>(
bif (decide (v42<(y11.2.length:Int)))then(
(za3 y11.2 v42).bind fun x13=>
((bif (decide (x13<0))then(
some true)
else(
some (decide (v10<x13))):Option Bool)).bind fun v52=>
bif v52 then(
some (.ret false))
else(
zaZ y11 n (w64 (v10 - x13)) (w64 (v42+1))))
else(
some (.go v10)))
def zaM(p0:S_net_network)(p1:S_api_Node):List (Int×(List Int))→Option (Out Unit Bool)
 | []=>some (.go ())
 | y11 :: ys=>(
((zaZ y11 ((y11.2.length:Int) - 0+2:Int).toNat p0.net.grain 0:Option (Out Int Bool))).bind fun o=>match o with
| .go v10=>(
((bif ((y11.2.length:Int)== p1.zaD)then(
some (!(v10 == 0)))
else(
some true):Option Bool)).bind fun v65=>
bif v65 then(
some (.ret false))
else(
zaM p0 p1 ys))
| .ret r=>some (.ret r))
def zbj(p0:S_net_network)(p1:S_api_Node):Option Bool:=
((za0 p1 p0 ((p1.parents.length:Int) - 0+2:Int).toNat 1 0:Option Int)).bind fun v5=>
bif ((p1.rows.length:Int)== v5)then(
(zgZ p1).bind fun r7=>
(zhf r7.rows).bind fun u9=>
((zaM p0 p1 (zvd r7.rows):Option (Out Unit Bool))).bind fun o=>match o with
| .go _=>(
some true)
| .ret r=>some r)
else(
some false)
theorem zeL{p0:S_net_network}{p1:S_api_Node}{r:Bool}(h:zbj p0 p1=some r):Lx.Fn mC 87 [(.agg [(dI p0.net.grain),(fzE false zab p0.net.nodes),(fzE false (eI .i64) p0.zay),(fzE false (eI .u64) p0.sets),(fzE false (eI .i64) p0.order)]),(.agg [(dI p1.zaD),(fzE false (eI .i64) p1.parents),(fzE false (eL (eI .i64)) p1.rows)])] (dB r):=by
 refine fnO (by conv=>lhs; cbv) ?_;unfold zbj at h;refine zaa ?_;try simp only[rnA,Nat.reduceEqDiff,Nat.reduceLT,Nat.reduceAdd,reduceCtorEq,zaC]
 obtain⟨o1,j1,h⟩:=bind_some h;obtain⟨T1,hT1⟩:=mkT fun a:Int=>⟨66,[(2,(.ptr 0 0)),(3,(.ptr 1 0)),(4,(.ptr 2 0)),(5,(dI a))],[.cells [(dI p0.net.grain),(fzE false zab p0.net.nodes),(fzE false (eI .i64) p0.zay),(fzE false (eI .u64) p0.sets),(fzE false (eI .i64) p0.order)],.cells [(dI p1.zaD),(fzE false (eI .i64) p1.parents),(fzE false (eL (eI .i64)) p1.rows)],.cells [(dB false)]]⟩
 refine EvL.jn T1 (fun a=>a=o1) ?_ ?_
 ·refine zaa ?_;simp only[rnA];obtain⟨T2,hT2⟩:=mkT fun a:(Int×Int)=>⟨66,[(2,(.ptr 0 0)),(3,(.ptr 1 0)),(4,(.ptr 2 0)),(5,(dI a.1)),(14,(fzE false (eI .i64) p1.parents)),(15,(dI (p1.parents.length:Int))),(16,(dI a.2))],[.cells [(dI p0.net.grain),(fzE false zab p0.net.nodes),(fzE false (eI .i64) p0.zay),(fzE false (eI .u64) p0.sets),(fzE false (eI .i64) p0.order)],.cells [(dI p1.zaD),(fzE false (eI .i64) p1.parents),(fzE false (eL (eI .i64)) p1.rows)],.cells [(dB false)]]⟩
  refine EvL.rounds (α:=(Int×Int)) T2 (fun n a=>za0 p1 p0 n a.1 a.2=some o1) ((p1.parents.length:Int) - 0+2:Int).toNat (1,0) (by rw[hT2]; exact wm0 [.k,.k,.k] ⟨MB.cs ⟨qdn,qdn,qdn,qdn,qdn,qdn⟩,⟨MB.cs ⟨qdn,qdn,qdn,qdn⟩,⟨MB.cs ⟨qdn,qdn⟩,qdn⟩⟩⟩) j1 (fun _ h=>nomatch (show(none:Option Int)=some o1 from h)) ?_;rintro n ⟨v5,v16⟩ j1;simp only[za0]at j1;rw[congrFun hT2 (v5,v16)];refine zaa ?_;try simp only[rnA,Nat.reduceEqDiff,Nat.reduceLT]
  cases c1:(decide (v16<(p1.parents.length:Int)))
  ·rw[c1,cond_false]at j1;try simp only[rnA]
   replace j1:=qae j1; subst j1;exact lfj hT1 rfl (wm0 [.k,.k,.k] ⟨MB.cs ⟨qdn,qdn,qdn,qdn,qdn,qdn⟩,⟨MB.cs ⟨qdn,qdn,qdn,qdn⟩,⟨MB.cs ⟨qdn,qdn⟩,qdn⟩⟩⟩)
  rw[c1,cond_true]at j1;obtain⟨x2,g3,j1⟩:=bind_some j1;obtain⟨x4,g5,j1⟩:=bind_some j1;try simp only[rnA,Nat.reduceEqDiff,Nat.reduceLT,zaS (n:=1) (e:=(eI .i64)) rfl g3,zaS (n:=1) (e:=(eI .i64)) rfl g5]
  exact⟨((w64 (v5 * x4)),(w64 (v16+1))),j1,by rw[hT2]; exact wm0 [.k,.k,.k] ⟨MB.cs ⟨qdn,qdn,qdn,qdn,qdn,qdn⟩,⟨MB.cs ⟨qdn,qdn,qdn,qdn⟩,⟨MB.cs ⟨qdn,qdn⟩,qdn⟩⟩⟩⟩
 rintro v5 rfl;rw[congrFun hT1 v5];refine zaa ?_;try simp only[rnA,Nat.reduceEqDiff,Nat.reduceLT,zaC]
 cases c6:((p1.rows.length:Int)== v5)
 ·rw[c6,cond_false]at h;try simp only[rnA,Nat.reduceEqDiff,Nat.reduceLeDiff]
  replace h:=qae h; subst h;exact zeb.ret rfl (.lit _)
 rw[c6,cond_true]at h;obtain⟨r7,g8,h⟩:=bind_some h;try simp only[rnA,Nat.reduceEqDiff,Nat.reduceLT,Nat.reduceAdd,Nat.reduceLeDiff]
 refine EvL.fnS (znq g8) rfl rfl (.cons (Mzs.agg (.cons (.lit _) (.cons (zhb _ _ (fun h=>by cases h<;>contradiction)) (.cons (zhb _ _ (fun h=>by cases h<;>contradiction)) .nil)))) .nil) ⟨⟨qdn,(zcT _ _),(zcT _ _),qdn⟩,qdn⟩ ⟨qdn,⟨⟨rfl,zab.fr _⟩,qdn⟩⟩ ?_;try simp only[rnA,Nat.reduceLT,zak]
 obtain⟨u9,g10,h⟩:=bind_some h;obtain⟨o12,j12,h⟩:=bind_some h;obtain⟨T12,hT12⟩:∃ T:Unit→List LB,T=(fun a=>[.cells [(dI p0.net.grain),(fzE false zab p0.net.nodes),(fzE false (eI .i64) p0.zay),(fzE false (eI .u64) p0.sets),(fzE false (eI .i64) p0.order)],.cells [(dI p1.zaD),(fzE false (eI .i64) p1.parents),(fzE false (eL (eI .i64)) p1.rows)],.cells [(dB false)]]):=⟨_,rfl⟩;refine EvL.zqA (S':=⟨66,[(2,(.ptr 0 0)),(3,(.ptr 1 0)),(4,(.ptr 2 0)),(34,(.clo 129 [] [(.fptr false (zab.c false r7))]))],T12 ()⟩) (by rw[hT12]; exact wm0 [.k,.k,.k] ⟨MB.cs ⟨qdn,qdn,qdn,qdn,qdn,qdn⟩,⟨MB.cs ⟨qdn,qdn,qdn,qdn⟩,⟨MB.cs ⟨qdn,qdn⟩,qdn⟩⟩⟩) ?_;refine EvL.zgT (n0:=3) (zml r7 g10) rfl (bm:=.block 3 (.seq (.reg false false [⟨some 37,.fld 0 (.s 2),none⟩,⟨some 38,.fld 0 (.s 37),none⟩,⟨some 39,.load none (.s 38),none⟩,⟨some 10,.mov (.s 39),none⟩]) (.seq (.seq (.reg false false [⟨some 40,.mov (.s 9),none⟩,⟨some 41,.len (.s 40),none⟩,⟨some 42,.mov (.c (.int .i64 0)),none⟩]) (.scope (.block 4 (.loop (.seq (.reg false false [⟨some 43,.bin .lss (.s 42) (.s 41),none⟩]) (.seq (.cond (.s 43) (.skip) (.exit 4)) (.seq (.block 5 (.seq (.reg false false [⟨some 44,.idxS 1 (.s 40) (.s 42),none⟩,⟨some 45,.load none (.s 44),none⟩,⟨some 12,.mov (.s 45),none⟩]) (.seq (.seq (.scope (.reg false false [⟨some 46,.mov (.s 12),none⟩,⟨some 47,.bin .lss (.s 46) (.c (.int .i64 0)),none⟩,⟨some 48,.mov (.s 47),none⟩,⟨some 49,.mov (.s 12),some (48,false)⟩,⟨some 50,.mov (.s 10),some (48,false)⟩,⟨some 51,.bin .gtr (.s 49) (.s 50),some (48,false)⟩,⟨some 52,.pick (.s 48) (.c (.bool true)) (.s 51),none⟩])) (.cond (.s 52) (.seq (.reg false false [⟨none,.store 1 (.s 4) (.c (.bool false)),none⟩]) (.ret)) (.skip))) (.reg false false [⟨some 53,.mov (.s 10),none⟩,⟨some 54,.mov (.s 12),none⟩,⟨some 55,.bin .sub (.s 53) (.s 54),none⟩,⟨some 10,.mov (.s 55),none⟩])))) (.reg false false [⟨some 56,.bin .add (.s 42) (.c (.int .i64 1)),none⟩,⟨some 42,.mov (.s 56),none⟩])))))))) (.seq (.scope (.reg false false [⟨some 57,.mov (.s 9),none⟩,⟨some 58,.len (.s 57),none⟩,⟨some 59,.fld 0 (.s 3),none⟩,⟨some 60,.load none (.s 59),none⟩,⟨some 61,.bin .neq (.s 58) (.s 60),none⟩,⟨some 62,.mov (.s 61),none⟩,⟨some 63,.mov (.s 10),some (62,false)⟩,⟨some 64,.bin .neq (.s 63) (.c (.int .i64 0)),some (62,false)⟩,⟨some 65,.pick (.s 62) (.c (.bool true)) (.s 64),none⟩])) (.cond (.s 65) (.seq (.reg false false [⟨none,.store 1 (.s 4) (.c (.bool false)),none⟩]) (.ret)) (.skip)))))) rfl T12 (fun i a=>zaM p0 p1 ((zvd r7.rows).drop i)=some o12) (fun x L1=>match x with | .normal=>∃ a,o12=.go a∧L1=T12 a | .ret=>L1.length=3∧zf6 (3+1) L1∧(zeb [.cell 4 none] ((dB r))) .ret ⟨66,[(2,(.ptr 0 0)),(3,(.ptr 1 0)),(4,(.ptr 2 0)),(34,(.clo 129 [] [(.fptr false (zab.c false r7))]))],L1 ++ [.lost]⟩| _=>False) () ?_ (qaC _) ?_ ?_ ?_ (fun d L1 hx=>hx.elim) ?_ ?_ ?_ ?_ ?_ ?_
 ·intro a; rw[hT12]; rfl
 ·exact⟨(qai rfl),(qai rfl),(qai rfl),⟨qdn,⟨qdn,qdn⟩⟩,qdn⟩
 ·intro a; rw[hT12]; exact⟨⟨qdn,qdn,qdn,qdn,qdn,qdn⟩,⟨qdn,qdn,qdn,qdn⟩,⟨qdn,qdn⟩,qdn⟩
 ·intro x L1 hx;cases x with
  | normal=>obtain⟨a,_,rfl⟩:=hx; exact⟨by rw[hT12]; rfl,by rw[hT12]; exact⟨⟨qdn,qdn,qdn,qdn,qdn,qdn⟩,⟨qdn,qdn,qdn,qdn⟩,⟨qdn,qdn⟩,qdn⟩⟩
  | ret=>exact⟨hx.1,hx.2.1⟩
  | exit id=>exact hx.elim
  | panic d=>exact hx.elim
 ·exact j12
 ·rintro i ⟨⟩ y11 args G lpF hy hi12 ⟨rfl,rfl⟩ hkin;rw[zud hy]at hi12;simp only[zaM]at hi12;refine⟨_,_,rfl,rfl,?_⟩;rw[congrFun hT12 ()];refine zaa ?_;try simp only[rnA,Nat.reduceEqDiff,Nat.reduceLT,Nat.reduceAdd,zak,zaC]
  obtain⟨o16,j16,hi12⟩:=bind_some hi12;obtain⟨T16,hT16⟩:=mkT fun a:Int=>⟨66,[(3,(.ptr 1 0)),(4,(.ptr 2 0)),(9,(fzE false (eI .i64) y11.2)),(10,(dI a))],[.cells [(dI p0.net.grain),(fzE false zab p0.net.nodes),(fzE false (eI .i64) p0.zay),(fzE false (eI .u64) p0.sets),(fzE false (eI .i64) p0.order)],.cells [(dI p1.zaD),(fzE false (eI .i64) p1.parents),(fzE false (eL (eI .i64)) p1.rows)],.cells [(dB false)],lpF]⟩
  refine EvL.jn T16 (fun a=>o16=.go a) ?_ ?_
  ·refine zaa ?_;simp only[rnA];obtain⟨T19,hT19⟩:=mkT fun a:(Int×Int)=>⟨66,[(3,(.ptr 1 0)),(4,(.ptr 2 0)),(9,(fzE false (eI .i64) y11.2)),(10,(dI a.1)),(40,(fzE false (eI .i64) y11.2)),(41,(dI (y11.2.length:Int))),(42,(dI a.2))],[.cells [(dI p0.net.grain),(fzE false zab p0.net.nodes),(fzE false (eI .i64) p0.zay),(fzE false (eI .u64) p0.sets),(fzE false (eI .i64) p0.order)],.cells [(dI p1.zaD),(fzE false (eI .i64) p1.parents),(fzE false (eL (eI .i64)) p1.rows)],.cells [(dB false)],lpF]⟩
   refine EvL.rounds (α:=(Int×Int)) T19 (fun n a=>zaZ y11 n a.1 a.2=some o16) ((y11.2.length:Int) - 0+2:Int).toNat (p0.net.grain,0) (by rw[hT19]; exact zbP.mK (k0:=4) [.k,.k,.k,.k] rfl rfl (msq (msq (msq (msq (msq (msq (msq trivial))))))) ⟨MB.cs ⟨qdn,qdn,qdn,qdn,qdn,qdn⟩,⟨MB.cs ⟨qdn,qdn,qdn,qdn⟩,⟨MB.cs ⟨qdn,qdn⟩,⟨.same (hkin _ (by decide)),qdn⟩⟩⟩⟩) j16 (fun _ h=>nomatch (show(none:Option (Out Int Bool))=some o16 from h)) ?_;rintro n ⟨v10,v42⟩ j16;simp only[zaZ]at j16;rw[congrFun hT19 (v10,v42)];refine zaa ?_;try simp only[rnA,Nat.reduceEqDiff,Nat.reduceLT]
   cases c12:(decide (v42<(y11.2.length:Int)))
   ·rw[c12,cond_false]at j16;try simp only[rnA,Nat.reduceEqDiff]
    replace j16:=qae j16; subst j16;exact⟨_,rfl,by rw[hT16]; exact zbP.mK (k0:=4) [.k,.k,.k,.k] rfl rfl (msq (msq (msq (msq trivial)))) ⟨MB.cs ⟨qdn,qdn,qdn,qdn,qdn,qdn⟩,⟨MB.cs ⟨qdn,qdn,qdn,qdn⟩,⟨MB.cs ⟨qdn,qdn⟩,⟨.same (hkin _ (by decide)),qdn⟩⟩⟩⟩⟩
   rw[c12,cond_true]at j16;obtain⟨x13,g14,j16⟩:=bind_some j16;try simp only[rnA,Nat.reduceEqDiff,Nat.reduceLT,zaS (n:=1) (e:=(eI .i64)) rfl g14]
   obtain⟨o20,j20,j16⟩:=bind_some j16;obtain⟨T20,hT20⟩:=mkT fun a:Bool=>⟨66,[(3,(.ptr 1 0)),(4,(.ptr 2 0)),(9,(fzE false (eI .i64) y11.2)),(10,(dI v10)),(12,(dI x13)),(40,(fzE false (eI .i64) y11.2)),(41,(dI (y11.2.length:Int))),(42,(dI v42)),(52,(dB a))],[.cells [(dI p0.net.grain),(fzE false zab p0.net.nodes),(fzE false (eI .i64) p0.zay),(fzE false (eI .u64) p0.sets),(fzE false (eI .i64) p0.order)],.cells [(dI p1.zaD),(fzE false (eI .i64) p1.parents),(fzE false (eL (eI .i64)) p1.rows)],.cells [(dB false)],lpF]⟩
   refine EvL.jn T20 (fun a=>a=o20) ?_ ?_
   ·refine zaa ?_;try simp only[rnA,Nat.reduceEqDiff,Nat.reduceLT]
    cases c15:(decide (x13<0))
    ·rw[c15,cond_false]at j20;try simp only[rnA,Nat.reduceEqDiff,Nat.reduceLT]
     replace j20:=qae j20; subst j20;exact⟨_,rfl,by rw[hT20]; exact zbP.mK (k0:=4) [.k,.k,.k,.k] rfl rfl (msq (msq (msq (msq (msq (msq (msq (msq (msq trivial))))))))) ⟨MB.cs ⟨qdn,qdn,qdn,qdn,qdn,qdn⟩,⟨MB.cs ⟨qdn,qdn,qdn,qdn⟩,⟨MB.cs ⟨qdn,qdn⟩,⟨.same (hkin _ (by decide)),qdn⟩⟩⟩⟩⟩
    rw[c15,cond_true]at j20;try simp only[rnA,Nat.reduceEqDiff,Nat.reduceLT]
    replace j20:=qae j20; subst j20;exact⟨_,rfl,by rw[hT20]; exact zbP.mK (k0:=4) [.k,.k,.k,.k] rfl rfl (msq (msq (msq (msq (msq (msq (msq (msq (msq trivial))))))))) ⟨MB.cs ⟨qdn,qdn,qdn,qdn,qdn,qdn⟩,⟨MB.cs ⟨qdn,qdn,qdn,qdn⟩,⟨MB.cs ⟨qdn,qdn⟩,⟨.same (hkin _ (by decide)),qdn⟩⟩⟩⟩⟩
   rintro v52 rfl;rw[congrFun hT20 v52];refine zaa ?_;try simp only[rnA,Nat.reduceEqDiff]
   cases c16:v52
   ·rw[c16,cond_false]at j16;try simp only[rnA,Nat.reduceEqDiff,Nat.reduceLT]
    exact⟨((w64 (v10 - x13)),(w64 (v42+1))),j16,by rw[hT19]; exact zbP.mK (k0:=4) [.k,.k,.k,.k] rfl rfl (msq (msq (msq (msq (msq (msq (msq trivial))))))) ⟨MB.cs ⟨qdn,qdn,qdn,qdn,qdn,qdn⟩,⟨MB.cs ⟨qdn,qdn,qdn,qdn⟩,⟨MB.cs ⟨qdn,qdn⟩,⟨.same (hkin _ (by decide)),qdn⟩⟩⟩⟩⟩
   rw[c16,cond_true]at j16;try simp only[rnA,Nat.reduceEqDiff,Nat.reduceLeDiff]
   replace j16:=qae j16; subst j16;dsimp only at hi12;replace hi12:=qae hi12; subst hi12;dsimp only at h;replace h:=qae h; subst h;exact⟨[.cells [(dI p0.net.grain),(fzE false zab p0.net.nodes),(fzE false (eI .i64) p0.zay),(fzE false (eI .u64) p0.sets),(fzE false (eI .i64) p0.order)],.cells [(dI p1.zaD),(fzE false (eI .i64) p1.parents),(fzE false (eL (eI .i64)) p1.rows)],.cells [(dB false)]],rfl,zbP.mK [.k,.k,.k,.k] rfl rfl qdn ⟨MB.cs ⟨qdn,qdn,qdn,qdn,qdn,qdn⟩,⟨MB.cs ⟨qdn,qdn,qdn,qdn⟩,⟨MB.cs ⟨qdn,qdn⟩,⟨.same (hkin _ (by decide)),qdn⟩⟩⟩⟩,rfl,⟨⟨qdn,qdn,qdn,qdn,qdn,qdn⟩,⟨qdn,qdn,qdn,qdn⟩,⟨qdn,qdn⟩,qdn⟩,zeb.ret rfl (.lit _)⟩
  rintro v10 rfl;dsimp only at hi12;rw[congrFun hT16 v10];refine zaa ?_;try simp only[rnA]
  obtain⟨o21,j21,hi12⟩:=bind_some hi12;obtain⟨T21,hT21⟩:=mkT fun a:Bool=>⟨66,[(4,(.ptr 2 0)),(65,(dB a))],[.cells [(dI p0.net.grain),(fzE false zab p0.net.nodes),(fzE false (eI .i64) p0.zay),(fzE false (eI .u64) p0.sets),(fzE false (eI .i64) p0.order)],.cells [(dI p1.zaD),(fzE false (eI .i64) p1.parents),(fzE false (eL (eI .i64)) p1.rows)],.cells [(dB false)],lpF]⟩
  refine EvL.jn T21 (fun a=>a=o21) ?_ ?_
  ·refine zaa ?_;try simp only[rnA,Nat.reduceEqDiff,Nat.reduceLT,zaC]
   cases c17:((y11.2.length:Int)== p1.zaD)
   ·rw[c17,cond_false]at j21;try simp only[rnA,Nat.reduceEqDiff,Nat.reduceLT]
    replace j21:=qae j21; subst j21;exact⟨_,rfl,by rw[hT21]; exact zbP.mK (k0:=4) [.k,.k,.k,.k] rfl rfl (msq (msq trivial)) ⟨MB.cs ⟨qdn,qdn,qdn,qdn,qdn,qdn⟩,⟨MB.cs ⟨qdn,qdn,qdn,qdn⟩,⟨MB.cs ⟨qdn,qdn⟩,⟨.same (hkin _ (by decide)),qdn⟩⟩⟩⟩⟩
   rw[c17,cond_true]at j21;try simp only[rnA,Nat.reduceEqDiff,Nat.reduceLT]
   replace j21:=qae j21; subst j21;exact⟨_,rfl,by rw[hT21]; exact zbP.mK (k0:=4) [.k,.k,.k,.k] rfl rfl (msq (msq trivial)) ⟨MB.cs ⟨qdn,qdn,qdn,qdn,qdn,qdn⟩,⟨MB.cs ⟨qdn,qdn,qdn,qdn⟩,⟨MB.cs ⟨qdn,qdn⟩,⟨.same (hkin _ (by decide)),qdn⟩⟩⟩⟩⟩
  rintro v65 rfl;rw[congrFun hT21 v65];refine zaa ?_;try simp only[rnA,Nat.reduceEqDiff]
  cases c18:v65
  ·rw[c18,cond_false]at hi12;try simp only[rnA]
   exact⟨T12 (),by rw[hT12]; rfl,by rw[hT12]; exact zbP.mK [.k,.k,.k,.k] rfl rfl qdn ⟨MB.cs ⟨qdn,qdn,qdn,qdn,qdn,qdn⟩,⟨MB.cs ⟨qdn,qdn,qdn,qdn⟩,⟨MB.cs ⟨qdn,qdn⟩,⟨.same (hkin _ (by decide)),qdn⟩⟩⟩⟩,(),hi12,rfl⟩
  rw[c18,cond_true]at hi12;try simp only[rnA,Nat.reduceEqDiff,Nat.reduceLeDiff]
  replace hi12:=qae hi12; subst hi12;dsimp only at h;replace h:=qae h; subst h;exact⟨[.cells [(dI p0.net.grain),(fzE false zab p0.net.nodes),(fzE false (eI .i64) p0.zay),(fzE false (eI .u64) p0.sets),(fzE false (eI .i64) p0.order)],.cells [(dI p1.zaD),(fzE false (eI .i64) p1.parents),(fzE false (eL (eI .i64)) p1.rows)],.cells [(dB false)]],rfl,zbP.mK [.k,.k,.k,.k] rfl rfl qdn ⟨MB.cs ⟨qdn,qdn,qdn,qdn,qdn,qdn⟩,⟨MB.cs ⟨qdn,qdn,qdn,qdn⟩,⟨MB.cs ⟨qdn,qdn⟩,⟨.same (hkin _ (by decide)),qdn⟩⟩⟩⟩,rfl,⟨⟨qdn,qdn,qdn,qdn,qdn,qdn⟩,⟨qdn,qdn,qdn,qdn⟩,⟨qdn,qdn⟩,qdn⟩,zeb.ret rfl (.lit _)⟩
 ·rintro⟨⟩ hi12;rw[qb7]at hi12;simp only[zaM]at hi12;exact⟨(),(qae hi12).symm,rfl⟩
 ·rintro _ ⟨⟨⟩,rfl,rfl⟩;dsimp only at h;rw[congrFun hT12 ()];refine zaa ?_;try simp only[rnA,Nat.reduceEqDiff,Nat.reduceLeDiff,zak]
  replace h:=qae h; subst h;exact zeb.ret rfl (.lit _)
 ·intro id L1 hx; exact hx.elim
 intro L1 hx; exact hx.2.2
def zb7(p0:(List Int))(v5:Int)(C1:Nat):Nat→Int→(List Int)→Option (Out3 Unit (Int×(List Int)) ((List Int)×Bool))
 | 0,_,_=>none
 | n+1,v18,l0'=>(
bif (decide (v18<(p0.length:Int)))then(
(za3 p0 v18).bind fun x5=>
(((zhP .u64 v5 v18).bind fun q7=>
bif ((zfz .u64 q7 1)== 0)then(
some (((zub .u64 x5 v5)== 0),l0'))
else(
some (false,l0')):Option ((Bool×(List Int))))).bind fun o=>match o with
|(v33,l0'')=>(
bif v33 then(
(zm9 C1 l0'' [v18]).bind fun y11=>
(zmB .u64 1 v18).bind fun q13=>
some (.brk ((orI .u64 v5 q13),y11)))
else(
zb7 p0 v5 C1 n (w64 (v18+1)) l0'')))
else(
some (.go ())))
def zb6(p0:(List Int))(C1:Nat):Nat→Int→(List Int)→Option (Out (List Int) ((List Int)×Bool))
 | 0,_,_=>none
 | n+1,v5,l0=>(
bif (decide (((l0.length:Nat):Int)<(p0.length:Int)))then(
((zb7 p0 v5 C1 ((p0.length:Int) - 0+2:Int).toNat 0 l0:Option (Out3 Unit (Int×(List Int)) ((List Int)×Bool)))).bind fun o=>match o with
| .go _=>(
some (.ret ([],false)))
| .brk (v5',l0')=>(
zb6 p0 C1 n v5' l0')
| .ret r=>some (.ret r))
else(
some (.go l0)))
def zdh(p0:(List Int)):Option ((List Int)×Bool):=
(zxY 8 (p0.length:Int)).bind fun C1=>
((zb6 p0 C1 ((p0.length:Int) - ((([]:List Int).length:Nat):Int)+2:Int).toNat 0 ([]:List Int):Option (Out (List Int) ((List Int)×Bool)))).bind fun o=>match o with
| .go l0=>(
some (l0,true))
| .ret r=>some r
theorem zki{p0:(List Int)}{r:((List Int)×Bool)}(h:zdh p0=some r):Lx.Fn mC 88 [(fzE false (eI .u64) p0)] (.tup [(fzE true (eI .i64) r.1),(dB r.2)]):=by
 refine fnO (by conv=>lhs; cbv) ?_;unfold zdh at h;refine zaa ?_;try simp only[rnA,Nat.reduceLT]
 refine EvL.scope (zaa ?_);obtain⟨C1,g2,h⟩:=bind_some h;try simp only[rnA,Nat.reduceEqDiff,Nat.reduceLT,reduceCtorEq,zaC,(zkM g2).1.1,(zkM g2).1.2,(zkM g2).2,qdi,Int.toNat_zero,(show List.replicate C1 [(dI 0)]=(room [] C1 0).map ((eI .i64).c true)from zuA g2 0 ((eI .i64).c true))]
 obtain⟨o84,j84,h⟩:=bind_some h;obtain⟨T84,hT84⟩:=mkT fun a:(List Int)=>⟨44,[(4,(.sl 0 0 1 a.length (some C1) C1))],[.els 1 ((room a C1 0).map ((eI .i64).c true))]⟩
 refine EvL.jn T84 (fun a=>o84=.go a∧a.length≤C1) ?_ ?_
 ·refine zaa ?_;simp only[rnA];obtain⟨T103,hT103⟩:=mkT fun a:(Int×(List Int))=>⟨44,[(0,(fzE false (eI .u64) p0)),(4,(.sl 0 0 1 a.2.length (some C1) C1)),(5,(dU a.1))],[.els 1 ((room a.2 C1 0).map ((eI .i64).c true))]⟩
  refine EvL.rounds (α:=(Int×(List Int))) T103 (fun n a=>zb6 p0 C1 n a.1 a.2=some o84∧a.2.length≤C1) ((p0.length:Int) - ((([]:List Int).length:Nat):Int)+2:Int).toNat (0,([]:List Int)) (by rw[hT103]; exact wm0 [.k] ⟨MB.es (eI .i64) true (room ([]:List Int) C1 0),qdn⟩) ⟨j84,(qaC _)⟩ (fun _ h=>nomatch (show(none:Option (Out (List Int) ((List Int)×Bool)))=some o84 from h.1)) ?_;rintro n ⟨v5,l0⟩ ⟨j84,el0⟩;simp only[zb6]at j84;rw[congrFun hT103 (v5,l0)];refine zaa ?_;try simp only[rnA,Nat.reduceEqDiff,Nat.reduceLT,reduceCtorEq,zhC el0 0,zaC]
  cases c3:(decide (((l0.length:Nat):Int)<(p0.length:Int)))
  ·rw[c3,cond_false]at j84;try simp only[rnA]
   replace j84:=qae j84; subst j84;exact⟨_,⟨rfl,el0⟩,by rw[hT84]; exact wm0 [.k] ⟨MB.es (eI .i64) true (room l0 C1 0),qdn⟩⟩
  rw[c3,cond_true]at j84;try simp only[rnA,Nat.reduceEqDiff,Nat.reduceLT,reduceCtorEq,zaC]
  obtain⟨o108,j108,j84⟩:=bind_some j84;obtain⟨T108,hT108⟩:=mkT fun a:Unit=>⟨44,[],[]⟩
  obtain⟨TB108,hTB108⟩:∃ T:(Int×(List Int))→LSt,T=(fun a=>⟨44,[(0,(fzE false (eI .u64) p0)),(4,(.sl 0 0 1 a.2.length (some C1) C1)),(5,(dU a.1))],[.els 1 ((room a.2 C1 0).map ((eI .i64).c true))]⟩):=⟨_,rfl⟩;refine EvL.jn2 (id:=1) T108 (fun a=>o108=.go a) TB108 (fun a=>o108=.brk a∧a.2.length≤C1) (fun id S hx=>by first | (rcases hx with⟨hx | hx,_⟩<;> cases hx)| exact hx.elim) ?_ ?_ ?_
  ·refine zaa ?_;simp only[rnA];obtain⟨T111,hT111⟩:=mkT fun a:(Int×(List Int))=>⟨44,[(0,(fzE false (eI .u64) p0)),(4,(.sl 0 0 1 a.2.length (some C1) C1)),(5,(dU v5)),(16,(fzE false (eI .u64) p0)),(17,(dI (p0.length:Int))),(18,(dI a.1))],[.els 1 ((room a.2 C1 0).map ((eI .i64).c true))]⟩
   refine EvL.rounds (α:=(Int×(List Int))) T111 (fun n a=>zb7 p0 v5 C1 n a.1 a.2=some o108∧a.2.length≤C1) ((p0.length:Int) - 0+2:Int).toNat (0,l0) (by rw[hT111]; exact wm0 [.k] ⟨MB.es (eI .i64) true (room l0 C1 0),qdn⟩) ⟨j108,el0⟩ (fun _ h=>nomatch (show(none:Option (Out3 Unit (Int×(List Int)) ((List Int)×Bool)))=some o108 from h.1)) ?_;rintro n ⟨v18,l0'⟩ ⟨j108,el0'⟩;simp only[zb7]at j108;rw[congrFun hT111 (v18,l0')];refine zaa ?_;try simp only[rnA,Nat.reduceEqDiff,Nat.reduceLT,reduceCtorEq]
   cases c4:(decide (v18<(p0.length:Int)))
   ·rw[c4,cond_false]at j108;try simp only[rnA,Nat.reduceEqDiff]
    replace j108:=qae j108; subst j108;exact lfj hT108 rfl (wm0 [] (by exact trivial))
   rw[c4,cond_true]at j108;obtain⟨x5,g6,j108⟩:=bind_some j108;try simp only[rnA,Nat.reduceEqDiff,Nat.reduceLT,reduceCtorEq,zaS (n:=1) (e:=(eI .u64)) rfl g6]
   obtain⟨o112,j112,j108⟩:=bind_some j108;obtain⟨T112,hT112⟩:=mkT fun a:(Bool×(List Int))=>⟨44,[(0,(fzE false (eI .u64) p0)),(4,(.sl 0 0 1 a.2.length (some C1) C1)),(5,(dU v5)),(6,(dI v18)),(16,(fzE false (eI .u64) p0)),(17,(dI (p0.length:Int))),(18,(dI v18)),(33,(dB a.1))],[.els 1 ((room a.2 C1 0).map ((eI .i64).c true))]⟩
   refine EvL.jn T112 (fun a=>a=o112∧a.2.length≤C1) ?_ ?_
   ·refine zaa ?_;obtain⟨q7,g8,j112⟩:=bind_some j112;try simp only[rnA,Nat.reduceEqDiff,Nat.reduceLT,reduceCtorEq,(zaX g8).1,(zaX g8).2]
    cases c9:((zfz .u64 q7 1)== 0)
    ·rw[c9,cond_false]at j112;try simp only[rnA,Nat.reduceEqDiff,Nat.reduceLT,reduceCtorEq]
     replace j112:=qae j112; subst j112;exact⟨_,⟨rfl,el0'⟩,by rw[hT112]; exact wm0 [.k] ⟨MB.es (eI .i64) true (room l0' C1 0),qdn⟩⟩
    rw[c9,cond_true]at j112;try simp only[rnA,Nat.reduceEqDiff,Nat.reduceLT,reduceCtorEq]
    replace j112:=qae j112; subst j112;exact⟨_,⟨rfl,el0'⟩,by rw[hT112]; exact wm0 [.k] ⟨MB.es (eI .i64) true (room l0' C1 0),qdn⟩⟩
   rintro⟨v33,l0''⟩ ⟨rfl,el0''⟩;dsimp only at j108;rw[congrFun hT112 (v33,l0'')];refine zaa ?_;try simp only[rnA,Nat.reduceEqDiff,reduceCtorEq]
   cases c10:v33
   ·rw[c10,cond_false]at j108;try simp only[rnA,Nat.reduceEqDiff,Nat.reduceLT,reduceCtorEq]
    exact⟨((w64 (v18+1)),l0''),⟨j108,el0''⟩,by rw[hT111]; exact wm0 [.k] ⟨MB.es (eI .i64) true (room l0'' C1 0),qdn⟩⟩
   rw[c10,cond_true]at j108;obtain⟨y11,g12,j108⟩:=bind_some j108;obtain⟨q13,g14,j108⟩:=bind_some j108;try simp only[rnA,Nat.reduceEqDiff,Nat.reduceLT,Nat.reduceAdd,Nat.reduceLeDiff,reduceCtorEq,zhC el0'' 0,(show l0''.length+1=y11.length from zme g12),zo6 g12,(show((room l0'' C1 0).map ((eI .i64).c true)).take l0''.length ++ [[(dI v18)]]++ ((room l0'' C1 0).map ((eI .i64).c true)).drop y11.length=(room y11 C1 0).map ((eI .i64).c true)from zqU g12 0 ((eI .i64).c true)),(za6 g14).1,(za6 g14).2]
   replace j108:=qae j108; subst j108;exact⟨_,⟨rfl,(zo6 g12)⟩,by rw[hTB108]; exact wm0 [.k] ⟨MB.es (eI .i64) true (room y11 C1 0),qdn⟩⟩
  ·rintro⟨⟩ rfl;dsimp only at j84;rw[congrFun hT108 ()];refine zaa ?_;try simp only[rnA,Nat.reduceLT]
   replace j84:=qae j84; subst j84;dsimp only at h;replace h:=qae h; subst h;exact zeb.ret rfl (Snp.zlF (.cons (za1 (eI .i64)) (.cons (.lit _) .nil)))
  rintro⟨v5',l0'⟩ ⟨rfl,el0'⟩;dsimp only at j84;rw[congrFun hTB108 (v5',l0')];refine zaa ?_;try simp only[rnA,reduceCtorEq]
  exact⟨(v5',l0'),⟨j84,el0'⟩,by rw[hT103]; exact wm0 [.k] ⟨MB.es (eI .i64) true (room l0' C1 0),qdn⟩⟩
 rintro l0 ⟨rfl,el0⟩;dsimp only at h;rw[congrFun hT84 l0];refine zaa ?_;try simp only[rnA,Nat.reduceEqDiff,Nat.reduceLT]
 replace h:=qae h; subst h;exact zeb.ret rfl (Snp.zlF (.cons (zuM (e:=(eI .i64)) (t:=true) (z:=0) rfl rfl el0 (fun _=>rfl)) (.cons (.lit _) .nil)))
def zbe(p1:(List Int))(p0:S_api_Net):Nat→Int→Option (Out Unit Bool)
 | 0,_=>none
 | n+1,v5=>(
bif (decide (v5<(p1.length:Int)))then(
(((za3 p1 v5).bind fun x3=>
bif (decide (x3<(-1)))then(
some true)
else(
(za3 p0.nodes v5).bind fun x6=>
some (decide (x6.zaD≤x3))):Option Bool)).bind fun v35=>
bif v35 then(
some (.ret false))
else(
zbe p1 p0 n (w64 (v5+1))))
else(
some (.go ())))
def zc5(p0:S_api_Net)(p1:(List Int)):Option Bool:=
bif ((p1.length:Int)==(p0.nodes.length:Int))then(
((zbe p1 p0 ((p1.length:Int) - 0+2:Int).toNat 0:Option (Out Unit Bool))).bind fun o=>match o with
| .go _=>(
some true)
| .ret r=>some r)
else(
some false)
end Go.Dc
