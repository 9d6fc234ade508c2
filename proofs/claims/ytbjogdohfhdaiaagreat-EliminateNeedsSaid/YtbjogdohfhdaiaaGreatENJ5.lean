/-
 What net_network_filled computes. Conditions: none.
-/
import Derived.Test.YtbjogdohfhdaiaaGreatENJ4
set_option linter.unusedSimpArgs false
set_option linter.unusedVariables false
set_option maxRecDepth 100000
set_option maxHeartbeats 4000000
namespace Go.Dc
open Go Go.Mx Go.Lx Go.Proofs
def za7(p1:S_api_Node)(p0:S_net_network):Nat->Int->Int->Option Int
 | 0,_,_=>none
 | n+1,v5,v16=>(
bif (decide (v16<(p1.parents.length:Int)))then(
(zaz p1.parents v16).bind λx2=>
(zaz p0.zaK x2).bind λx4=>
za7 p1 p0 n (w64 (v5 * x4)) (w64 (v16+1)))
else(
some v5))
def zaC(y11:(Int×(List Int))):Nat->Int->Int->Option (Out Int Bool)
 | 0,_,_=>none
 | n+1,v10,v42=>(
bif (decide (v42<(y11.2.length:Int)))then(
(zaz y11.2 v42).bind λx13=>
((bif (decide (x13<0))then(
some true)
else(
some (decide (v10<x13))):Option Bool)).bind λv52=>
bif v52 then(
some (.ret false))
else(
zaC y11 n (w64 (v10 - x13)) (w64 (v42+1))))
else(
some (.go v10)))
def zaw(p0:S_net_network)(p1:S_api_Node):List (Int×(List Int))->Option (Out Unit Bool)
 | []=>some (.go ())
 | y11 :: ys=>(
((zaC y11 ((y11.2.length:Int) - 0+2:Int).toNat p0.net.grain 0:Option (Out Int Bool))).bind λo=>match o with
| .go v10=>(
((bif ((y11.2.length:Int)== p1.zap)then(
some (!(v10 == 0)))
else(
some true):Option Bool)).bind λv65=>
bif v65 then(
some (.ret false))
else(
zaw p0 p1 ys))
| .ret r=>some (.ret r))
def zaR(p0:S_net_network)(p1:S_api_Node):Option Bool:=
((za7 p1 p0 ((p1.parents.length:Int) - 0+2:Int).toNat 1 0:Option Int)).bind λv5=>
bif ((p1.rows.length:Int)== v5)then(
(zf0 p1).bind λr7=>
(zgm r7.rows).bind λu9=>
((zaw p0 p1 (zvB r7.rows):Option (Out Unit Bool))).bind λo=>match o with
| .go _=>(
some true)
| .ret r=>some r)
else(
some false)
theorem zfz{p0:S_net_network}{p1:S_api_Node}{r:Bool}(h:zaR p0 p1=some r):Lx.Fn mC 87 [(.agg [(dI p0.net.grain),(fzE false zaa p0.net.nodes),(fzE false (eI .i64) p0.zaK),(fzE false (eI .u64) p0.sets),(fzE false (eI .i64) p0.order)]),(.agg [(dI p1.zap),(fzE false (eI .i64) p1.parents),(fzE false (eL (eI .i64)) p1.rows)])] (dB r):=by
 refine gnO ?_;unfold zaR at h;refine wSM ?_;obtain⟨o1,j1,h⟩:=bsM h;obtain⟨T1,hT1⟩:∃ T:Int->LSt,T=(λa=>⟨66,[(2,(.ptr 0 0)),(3,(.ptr 1 0)),(4,(.ptr 2 0)),(5,(dI a))],[.cells [(dI p0.net.grain),(fzE false zaa p0.net.nodes),(fzE false (eI .i64) p0.zaK),(fzE false (eI .u64) p0.sets),(fzE false (eI .i64) p0.order)],.cells [(dI p1.zap),(fzE false (eI .i64) p1.parents),(fzE false (eL (eI .i64)) p1.rows)],.cells [(dB false)]]⟩):=⟨_,rfl⟩;refine EvL.jn T1 (λa=>a=o1) ?_ ?_
 .refine wSM ?_;obtain⟨T2,hT2⟩:∃ T:(Int×Int)->LSt,T=(λa=>⟨66,[(2,(.ptr 0 0)),(3,(.ptr 1 0)),(4,(.ptr 2 0)),(5,(dI a.1)),(14,(fzE false (eI .i64) p1.parents)),(15,(dI (p1.parents.length:Int))),(16,(dI a.2))],[.cells [(dI p0.net.grain),(fzE false zaa p0.net.nodes),(fzE false (eI .i64) p0.zaK),(fzE false (eI .u64) p0.sets),(fzE false (eI .i64) p0.order)],.cells [(dI p1.zap),(fzE false (eI .i64) p1.parents),(fzE false (eL (eI .i64)) p1.rows)],.cells [(dB false)]]⟩):=⟨_,rfl⟩;refine rdM hT2 (λn a=>za7 p1 p0 n a.1 a.2=some o1) (1,0) j1 ?_;rintro n ⟨v5,v16⟩ j1;simp only[za7]at j1;refine wTM hT2 ?_;refine cBM j1 (λ_ j1=>?_) λ_ j1=>?_
  .exact zcf j1 hT1
  obtain⟨x2,g3,j1⟩:=bsM j1;obtain⟨x4,g5,j1⟩:=bsM j1;refine sXM (anM (ixM g3) (ixM g5)) ?_;exact zct hT2 ((w64 (v5 * x4)),(w64 (v16+1))) j1
 rintro v5 rfl;refine wTM hT1 ?_;refine cBM h (λ_ h=>?_) λ_ h=>?_
 .exact rHM h
 obtain⟨r7,g8,h⟩:=bsM h;refine sSM ?_;refine fDM (zoB g8) ?_;refine sXM @zaf ?_;obtain⟨u9,g10,h⟩:=bsM h;obtain⟨o12,j12,h⟩:=bsM h;obtain⟨T12,hM12⟩:∃ T:Unit->List LB,T=(λa=>[.cells [(dI p0.net.grain),(fzE false zaa p0.net.nodes),(fzE false (eI .i64) p0.zaK),(fzE false (eI .u64) p0.sets),(fzE false (eI .i64) p0.order)],.cells [(dI p1.zap),(fzE false (eI .i64) p1.parents),(fzE false (eL (eI .i64)) p1.rows)],.cells [(dB false)]]):=⟨_,rfl⟩;refine EvL.ze4 (S':=⟨66,[(2,(.ptr 0 0)),(3,(.ptr 1 0)),(4,(.ptr 2 0)),(34,(.clo 129 [] [(.fptr false (zaa.c false r7))]))],T12 ()⟩) (by rw[hM12]; exact wAM) ?_;refine EvL.zhG (n0:=3) (zn5 r7 g10) rfl (bm:=.block 3 (.seq (.reg false false [⟨some 37,.fld 0 (.s 2),none⟩,⟨some 38,.fld 0 (.s 37),none⟩,⟨some 39,.load none (.s 38),none⟩,⟨some 10,.mov (.s 39),none⟩]) (.seq (.seq (.reg false false [⟨some 40,.mov (.s 9),none⟩,⟨some 41,.len (.s 40),none⟩,⟨some 42,.mov (.c (.int .i64 0)),none⟩]) (.scope (.block 4 (.loop (.seq (.reg false false [⟨some 43,.bin .lss (.s 42) (.s 41),none⟩]) (.seq (.cond (.s 43) (.skip) (.exit 4)) (.seq (.block 5 (.seq (.reg false false [⟨some 44,.idxS 1 (.s 40) (.s 42),none⟩,⟨some 45,.load none (.s 44),none⟩,⟨some 12,.mov (.s 45),none⟩]) (.seq (.seq (.scope (.reg false false [⟨some 46,.mov (.s 12),none⟩,⟨some 47,.bin .lss (.s 46) (.c (.int .i64 0)),none⟩,⟨some 48,.mov (.s 47),none⟩,⟨some 49,.mov (.s 12),some (48,false)⟩,⟨some 50,.mov (.s 10),some (48,false)⟩,⟨some 51,.bin .gtr (.s 49) (.s 50),some (48,false)⟩,⟨some 52,.pick (.s 48) (.c (.bool true)) (.s 51),none⟩])) (.cond (.s 52) (.seq (.reg false false [⟨none,.store 1 (.s 4) (.c (.bool false)),none⟩]) (.ret)) (.skip))) (.reg false false [⟨some 53,.mov (.s 10),none⟩,⟨some 54,.mov (.s 12),none⟩,⟨some 55,.bin .sub (.s 53) (.s 54),none⟩,⟨some 10,.mov (.s 55),none⟩])))) (.reg false false [⟨some 56,.bin .add (.s 42) (.c (.int .i64 1)),none⟩,⟨some 42,.mov (.s 56),none⟩])))))))) (.seq (.scope (.reg false false [⟨some 57,.mov (.s 9),none⟩,⟨some 58,.len (.s 57),none⟩,⟨some 59,.fld 0 (.s 3),none⟩,⟨some 60,.load none (.s 59),none⟩,⟨some 61,.bin .neq (.s 58) (.s 60),none⟩,⟨some 62,.mov (.s 61),none⟩,⟨some 63,.mov (.s 10),some (62,false)⟩,⟨some 64,.bin .neq (.s 63) (.c (.int .i64 0)),some (62,false)⟩,⟨some 65,.pick (.s 62) (.c (.bool true)) (.s 64),none⟩])) (.cond (.s 65) (.seq (.reg false false [⟨none,.store 1 (.s 4) (.c (.bool false)),none⟩]) (.ret)) (.skip)))))) rfl T12 (λi a=>zaw p0 p1 ((zvB r7.rows).drop i)=some o12) (λx L1=>match x with | .normal=>∃ a,o12=.go a/\L1=T12 a | .ret=>L1.length=3/\zhn (3+1) L1/\(zeJ [.cell 4 none] ((dB r))) .ret ⟨66,[(2,(.ptr 0 0)),(3,(.ptr 1 0)),(4,(.ptr 2 0)),(34,(.clo 129 [] [(.fptr false (zaa.c false r7))]))],L1 ++ [.lost]⟩| _=>False) () ?_ (qau _) ?_ ?_ ?_ (λd L1 hx=>hx.elim) ?_ ?_ ?_ ?_ ?_ ?_
 .intro a; rw[hM12]; rfl
 .exact⟨(qal rfl),(qal rfl),(qal rfl),⟨qdy,⟨qdy,qdy⟩⟩,qdy⟩
 .intro a; rw[hM12]; exact⟨⟨qdy,qdy,qdy,qdy,qdy,qdy⟩,⟨qdy,qdy,qdy,qdy⟩,⟨qdy,qdy⟩,qdy⟩
 .intro x L1 hx;cases x with
  | normal=>obtain⟨a,_,rfl⟩:=hx; exact⟨by rw[hM12]; rfl,by rw[hM12]; exact⟨⟨qdy,qdy,qdy,qdy,qdy,qdy⟩,⟨qdy,qdy,qdy,qdy⟩,⟨qdy,qdy⟩,qdy⟩⟩
  | ret=>exact⟨hx.1,hx.2.1⟩
  | exit id=>exact hx.elim
  | panic d=>exact hx.elim
 .exact j12
 .rintro i ⟨⟩ y11 args G lpF hy hi12 ⟨rfl,rfl⟩ hkin;rw[zvT hy]at hi12;simp only[zaw]at hi12;refine⟨_,_,rfl,rfl,?_⟩;rw[congrFun hM12 ()];refine zad ?_;refine sXM @zaf ?_;obtain⟨o16,j16,hi12⟩:=bsM hi12;obtain⟨T16,hT16⟩:∃ T:Int->LSt,T=(λa=>⟨66,[(3,(.ptr 1 0)),(4,(.ptr 2 0)),(9,(fzE false (eI .i64) y11.2)),(10,(dI a))],[.cells [(dI p0.net.grain),(fzE false zaa p0.net.nodes),(fzE false (eI .i64) p0.zaK),(fzE false (eI .u64) p0.sets),(fzE false (eI .i64) p0.order)],.cells [(dI p1.zap),(fzE false (eI .i64) p1.parents),(fzE false (eL (eI .i64)) p1.rows)],.cells [(dB false)],lpF]⟩):=⟨_,rfl⟩;refine EvL.jn T16 (λa=>o16=.go a) ?_ ?_
  .refine wSM ?_;obtain⟨T19,hT19⟩:∃ T:(Int×Int)->LSt,T=(λa=>⟨66,[(3,(.ptr 1 0)),(4,(.ptr 2 0)),(9,(fzE false (eI .i64) y11.2)),(10,(dI a.1)),(40,(fzE false (eI .i64) y11.2)),(41,(dI (y11.2.length:Int))),(42,(dI a.2))],[.cells [(dI p0.net.grain),(fzE false zaa p0.net.nodes),(fzE false (eI .i64) p0.zaK),(fzE false (eI .u64) p0.sets),(fzE false (eI .i64) p0.order)],.cells [(dI p1.zap),(fzE false (eI .i64) p1.parents),(fzE false (eL (eI .i64)) p1.rows)],.cells [(dB false)],lpF]⟩):=⟨_,rfl⟩;refine rdM hT19 (λn a=>zaC y11 n a.1 a.2=some o16) (p0.net.grain,0) j16 ?_;rintro n ⟨v10,v42⟩ j16;simp only[zaC]at j16;refine wTM hT19 ?_;refine cBM j16 (λ_ j16=>?_) λ_ j16=>?_
   .exact zwa j16 hT16
   obtain⟨x13,g14,j16⟩:=bsM j16;refine sXM (ixM g14) ?_;obtain⟨o20,j20,j16⟩:=bsM j16;obtain⟨T20,hT20⟩:=zce hT19 λa:Bool=>uDM (T19 (v10,v42)) [] [(12,(dI x13)),(52,(dB a))] [] []
   refine EvL.jn T20 _ (bJM j20 hT20) ?_;rintro v52 rfl;refine wTM hT20 ?_;refine cBM j16 (λ_ j16=>?_) λ_ j16=>?_
   .exact zct hT19 ((w64 (v10 - x13)),(w64 (v42+1))) j16
   obtain rfl:=qaf j16;obtain rfl:=qaf hi12;obtain rfl:=qaf h;exact⟨[.cells [(dI p0.net.grain),(fzE false zaa p0.net.nodes),(fzE false (eI .i64) p0.zaK),(fzE false (eI .u64) p0.sets),(fzE false (eI .i64) p0.order)],.cells [(dI p1.zap),(fzE false (eI .i64) p1.parents),(fzE false (eL (eI .i64)) p1.rows)],.cells [(dB false)]],rfl,wKM,rfl,⟨⟨qdy,qdy,qdy,qdy,qdy,qdy⟩,⟨qdy,qdy,qdy,qdy⟩,⟨qdy,qdy⟩,qdy⟩,zeJ.ret rfl (.lit _)⟩
  rintro v10 rfl;dsimp only at hi12;refine wTM hT16 ?_;obtain⟨o21,j21,hi12⟩:=bsM hi12;obtain⟨T21,hT21⟩:=zce hT16 λa:Bool=>uKM (T16 v10) [4] [(65,(dB a))] [] []
  refine EvL.jn T21 _ (bJM j21 hT21) ?_;rintro v65 rfl;refine wTM hT21 ?_;refine cBM hi12 (λ_ hi12=>?_) λ_ hi12=>?_
  .exact⟨T12 (),by rw[hM12]; rfl,by rw[hM12]; exact wKM,(),hi12,rfl⟩
  obtain rfl:=qaf hi12;obtain rfl:=qaf h;exact⟨[.cells [(dI p0.net.grain),(fzE false zaa p0.net.nodes),(fzE false (eI .i64) p0.zaK),(fzE false (eI .u64) p0.sets),(fzE false (eI .i64) p0.order)],.cells [(dI p1.zap),(fzE false (eI .i64) p1.parents),(fzE false (eL (eI .i64)) p1.rows)],.cells [(dB false)]],rfl,wKM,rfl,⟨⟨qdy,qdy,qdy,qdy,qdy,qdy⟩,⟨qdy,qdy,qdy,qdy⟩,⟨qdy,qdy⟩,qdy⟩,zeJ.ret rfl (.lit _)⟩
 .rintro⟨⟩ hi12;rw[qcm]at hi12;simp only[zaw]at hi12;exact⟨(),(qaf hi12).symm,rfl⟩
 .rintro _ ⟨⟨⟩,rfl,rfl⟩;dsimp only at h;rw[congrFun hM12 ()];refine zad ?_;refine sXM @zaf ?_;exact rHM h
 .intro id L1 hx; exact hx.elim
 intro L1 hx; exact hx.2.2
def zbg(p0:(List Int))(v5:Int)(C1:Nat):Nat->Int->(List Int)->Option (Out3 Unit (Int×(List Int)) ((List Int)×Bool))
 | 0,_,_=>none
 | n+1,v18,l0'=>(
bif (decide (v18<(p0.length:Int)))then(
(zaz p0 v18).bind λx5=>
(((zl6 .u64 v5 v18).bind λq7=>
bif ((zkd .u64 q7 1)== 0)then(
some (((zyt .u64 x5 v5)== 0),l0'))
else(
some (false,l0')):Option ((Bool×(List Int))))).bind λo=>match o with
|(v33,l0'')=>(
bif v33 then(
(zoV C1 l0'' [v18]).bind λy11=>
(zjl .u64 1 v18).bind λq13=>
some (.brk ((orI .u64 v5 q13),y11)))
else(
zbg p0 v5 C1 n (w64 (v18+1)) l0'')))
else(
some (.go ())))
def zbr(p0:(List Int))(C1:Nat):Nat->Int->(List Int)->Option (Out (List Int) ((List Int)×Bool))
 | 0,_,_=>none
 | n+1,v5,l0=>(
bif (decide (((l0.length:Nat):Int)<(p0.length:Int)))then(
((zbg p0 v5 C1 ((p0.length:Int) - 0+2:Int).toNat 0 l0:Option (Out3 Unit (Int×(List Int)) ((List Int)×Bool)))).bind λo=>match o with
| .go _=>(
some (.ret ([],false)))
| .brk (v5',l0')=>(
zbr p0 C1 n v5' l0')
| .ret r=>some (.ret r))
else(
some (.go l0)))
def zb7(p0:(List Int)):Option ((List Int)×Bool):=
(zxJ 8 (p0.length:Int)).bind λC1=>
((zbr p0 C1 ((p0.length:Int) - ((([]:List Int).length:Nat):Int)+2:Int).toNat 0 ([]:List Int):Option (Out (List Int) ((List Int)×Bool)))).bind λo=>match o with
| .go l0=>(
some (l0,true))
| .ret r=>some r
theorem zla{p0:(List Int)}{r:((List Int)×Bool)}(h:zb7 p0=some r):Lx.Fn mC 88 [(fzE false (eI .u64) p0)] (.tup [(fzE true (eI .i64) r.1),(dB r.2)]):=by
 refine gnO ?_;unfold zb7 at h;refine wSM ?_;refine EvL.scope (zad ?_);obtain⟨C1,g2,h⟩:=bsM h;refine sXM (anM ((zl8 g2).1.1) (anM ((zl8 g2).1.2) (anM ((zl8 g2).2) (anM @qcV (anM @qdp (show List.replicate C1 [(dI 0)]=(room [] C1 0).map ((eI .i64).c true)from zws g2 0 ((eI .i64).c true))))))) ?_;obtain⟨o84,j84,h⟩:=bsM h;obtain⟨T84,hT84⟩:∃ T:(List Int)->LSt,T=(λa=>⟨44,[(4,(.sl 0 0 1 a.length (some C1) C1))],[.els 1 ((room a C1 0).map ((eI .i64).c true))]⟩):=⟨_,rfl⟩;refine EvL.jn T84 (λa=>o84=.go a/\a.length<=C1) ?_ ?_
 .refine wSM ?_;obtain⟨T103,hT103⟩:∃ T:(Int×(List Int))->LSt,T=(λa=>⟨44,[(0,(fzE false (eI .u64) p0)),(4,(.sl 0 0 1 a.2.length (some C1) C1)),(5,(dU a.1))],[.els 1 ((room a.2 C1 0).map ((eI .i64).c true))]⟩):=⟨_,rfl⟩;refine rdM hT103 (λn a=>zbr p0 C1 n a.1 a.2=some o84/\a.2.length<=C1) (0,([]:List Int)) ⟨j84,(qau _)⟩ ?_;rintro n ⟨v5,l0⟩ ⟨j84,el0⟩;simp only[zbr]at j84;rw[congrFun hT103 (v5,l0)];refine zad ?_;refine sXM (zim el0 0) ?_;refine cBM j84 (λ_ j84=>?_) λ_ j84=>?_
  .obtain rfl:=qaf j84;exact zct hT84 _ ⟨rfl,el0⟩
  obtain⟨o108,j108,j84⟩:=bsM j84;obtain⟨T108,hT108⟩:∃ T:Unit->LSt,T=(λa=>⟨44,[],[]⟩):=⟨_,rfl⟩;obtain⟨TB108,hTB108⟩:∃ T:(Int×(List Int))->LSt,T=(λa=>⟨44,[(0,(fzE false (eI .u64) p0)),(4,(.sl 0 0 1 a.2.length (some C1) C1)),(5,(dU a.1))],[.els 1 ((room a.2 C1 0).map ((eI .i64).c true))]⟩):=⟨_,rfl⟩;refine EvL.jn2 (id:=1) T108 (λa=>o108=.go a) TB108 (λa=>o108=.brk a/\a.2.length<=C1) (λid S hx=>by first | (rcases hx with⟨hx | hx,_⟩<;> cases hx)| exact hx.elim) ?_ ?_ ?_
  .refine wSM ?_;obtain⟨T111,hT111⟩:∃ T:(Int×(List Int))->LSt,T=(λa=>⟨44,[(0,(fzE false (eI .u64) p0)),(4,(.sl 0 0 1 a.2.length (some C1) C1)),(5,(dU v5)),(16,(fzE false (eI .u64) p0)),(17,(dI (p0.length:Int))),(18,(dI a.1))],[.els 1 ((room a.2 C1 0).map ((eI .i64).c true))]⟩):=⟨_,rfl⟩;refine rdM hT111 (λn a=>zbg p0 v5 C1 n a.1 a.2=some o108/\a.2.length<=C1) (0,l0) ⟨j108,el0⟩ ?_;rintro n ⟨v18,l0'⟩ ⟨j108,el0'⟩;simp only[zbg]at j108;refine wTM hT111 ?_;refine cBM j108 (λ_ j108=>?_) λ_ j108=>?_
   .obtain rfl:=qaf j108;exact zct hT108 _ rfl
   obtain⟨x5,g6,j108⟩:=bsM j108;refine sXM (zas (n:=1) (e:=(eI .u64)) rfl g6) ?_;obtain⟨o112,j112,j108⟩:=bsM j108;obtain⟨T112,hT112⟩:=zce hT111 λa:(Bool×(List Int))=>uDM (T111 (v18,l0')) [4] [(4,(.sl 0 0 1 a.2.length (some C1) C1)),(6,(dI v18)),(33,(dB a.1))] [(0,.els 1 ((room a.2 C1 0).map ((eI .i64).c true)))] []
   refine EvL.jn T112 (λa=>a=o112/\a.2.length<=C1) ?_ ?_
   .refine zad ?_;obtain⟨q7,g8,j112⟩:=bsM j112;refine sXM (anM ((zbu g8).1) ((zbu g8).2)) ?_;refine cBM j112 (λ_ j112=>?_) λ_ j112=>?_
    .obtain rfl:=qaf j112;exact zct hT112 _ ⟨rfl,el0'⟩
    obtain rfl:=qaf j112;exact zct hT112 _ ⟨rfl,el0'⟩
   rintro⟨v33,l0''⟩ ⟨rfl,el0''⟩;dsimp only at j108;refine wTM hT112 ?_;refine cBM j108 (λ_ j108=>?_) λ_ j108=>?_
   .exact zct hT111 ((w64 (v18+1)),l0'') ⟨j108,el0''⟩
   obtain⟨y11,g12,j108⟩:=bsM j108;obtain⟨q13,g14,j108⟩:=bsM j108;refine sXM (anM (zim el0'' 0) (anM (show l0''.length+1=y11.length from zmJ g12) (anM (zqi g12) (anM (show((room l0'' C1 0).map ((eI .i64).c true)).take l0''.length ++ [[(dI v18)]]++ ((room l0'' C1 0).map ((eI .i64).c true)).drop y11.length=(room y11 C1 0).map ((eI .i64).c true)from zsm g12 0 ((eI .i64).c true)) (anM ((zaN g14).1) ((zaN g14).2)))))) ?_;obtain rfl:=qaf j108;exact zct hTB108 _ ⟨rfl,(zqi g12)⟩
  .rintro⟨⟩ rfl;dsimp only at j84;refine wTM hT108 ?_;obtain rfl:=qaf j84;exact rHM h
  rintro⟨v5',l0'⟩ ⟨rfl,el0'⟩;dsimp only at j84;refine wTM hTB108 ?_;exact zct hT103 (v5',l0') ⟨j84,el0'⟩
 rintro l0 ⟨rfl,el0⟩;dsimp only at h;refine wTM hT84 ?_;obtain rfl:=qaf h;exact zeJ.ret rfl (Snp.zCR (.cons (zwm (e:=(eI .i64)) (t:=true) (z:=0) rfl rfl el0 (λ_=>rfl)) (.cons (.lit _) .nil)))
def zbC(p0:S_api_Net):Nat->Int->Int->(List Int)->Option (Out (Int×(List Int)) (S_net_network×Int))
 | 0,_,_,_=>none
 | n+1,v5,v50,l2=>(
bif (decide (v50<(p0.nodes.length:Int)))then(
(zaz p0.nodes v50).bind λx8=>
((bif (decide (x8.zap<1))then(
some true)
else(
some (decide (4<x8.zap))):Option Bool)).bind λv62=>
bif v62 then(
some (.ret ((S_net_network.mk (S_api_Net.mk 0 []) [] [] []),50)))
else(
(zaz l2 v50).bind λx12=>
(zeU l2 v50 x8.zap).bind λy14=>
zbC p0 n (w64 (v5 * x8.zap)) (w64 (v50+1)) y14))
else(
some (.go (v5,l2))))
def zb9(x18:S_api_Node)(p0:S_api_Net)(v82:Int):Nat->Int->Int->(List Int)->Option (Out (List Int) (S_net_network×Int))
 | 0,_,_,_=>none
 | n+1,v10,v90,l3'=>(
bif (decide (v90<(x18.parents.length:Int)))then(
(zaz x18.parents v90).bind λx21=>
((bif (decide (x21<=v10))then(
some true)
else(
bif (decide ((p0.nodes.length:Int)<=x21))then(
some true)
else(
some (x21 == v82))):Option Bool)).bind λv109=>
bif v109 then(
some (.ret ((S_net_network.mk (S_api_Net.mk 0 []) [] [] []),50)))
else(
(zaz l3' v82).bind λx26=>
(zjl .u64 1 x21).bind λq28=>
(zeU l3' v82 (orI .u64 x26 q28)).bind λy30=>
zb9 x18 p0 v82 n x21 (w64 (v90+1)) y30))
else(
some (.go l3')))
def zbB(p0:S_api_Net)(l2:(List Int)):Nat->Int->(List Int)->Option (Out (List Int) (S_net_network×Int))
 | 0,_,_=>none
 | n+1,v82,l3=>(
bif (decide (v82<(p0.nodes.length:Int)))then(
(zaz p0.nodes v82).bind λx18=>
((zb9 x18 p0 v82 ((x18.parents.length:Int) - 0+2:Int).toNat (-1) 0 l3:Option (Out (List Int) (S_net_network×Int)))).bind λo=>match o with
| .go l3'=>(
(zaR (S_net_network.mk p0 l2 l3' []) x18).bind λr32=>
bif r32 then(
zbB p0 l2 n (w64 (v82+1)) l3')
else(
some (.ret ((S_net_network.mk (S_api_Net.mk 0 []) [] [] []),50))))
| .ret r=>some (.ret r))
else(
some (.go l3)))
def zc2(p0:S_api_Net):Option (S_net_network×Int):=
((bif (decide (p0.grain<1))then(
some true)
else(
bif (decide (60<p0.grain))then(
some true)
else(
bif (decide ((p0.nodes.length:Int)<1))then(
some true)
else(
some (decide (8<(p0.nodes.length:Int)))))):Option Bool)).bind λv34=>
bif v34 then(
some ((S_net_network.mk (S_api_Net.mk 0 []) [] [] []),50))
else(
(zem 8 (p0.nodes.length:Int) 0).bind λy5=>
((zbC p0 ((p0.nodes.length:Int) - 0+2:Int).toNat 1 0 y5:Option (Out (Int×(List Int)) (S_net_network×Int)))).bind λo=>match o with
| .go (v5,l2)=>(
bif (decide (1024<v5))then(
some ((S_net_network.mk (S_api_Net.mk 0 []) [] [] []),50))
else(
((zbB p0 l2 ((p0.nodes.length:Int) - 0+2:Int).toNat 0 y5:Option (Out (List Int) (S_net_network×Int)))).bind λo=>match o with
| .go l3=>(
(zb7 l3).bind λr35=>
bif r35.2 then(
some ((S_net_network.mk p0 l2 l3 r35.1),0))
else(
some ((S_net_network.mk (S_api_Net.mk 0 []) [] [] []),50)))
| .ret r=>some r))
| .ret r=>some r)
variable{p0:S_api_Net}
theorem zpr{r:(S_net_network×Int)}(h:zc2 p0=some r):Lx.FnA mC 59 [(.agg [(dI p0.grain),(fzE false zaa p0.nodes)])] (.tup [(.agg [(dI r.1.net.grain),(fzE false zaa r.1.net.nodes),(fzE false (eI .i64) r.1.zaK),(fzE false (eI .u64) r.1.sets),(fzE false (eI .i64) r.1.order)]),(dI r.2)]):=by
 refine zCP ?_;unfold zc2 at h;refine wSM ?_;obtain⟨o1,j1,h⟩:=bsM h;obtain⟨T1,hT1⟩:∃ T:Bool->LSt,T=(λa=>⟨140,[(1,(.ptr 0 0)),(2,(.ptr 1 0)),(34,(dB a))],[.cells [(dI p0.grain),(fzE false zaa p0.nodes)],.cells [(dI 0),zhT,zhT,zhT,zhT]]⟩):=⟨_,rfl⟩;refine EvL.jn T1 _ (bJM j1 hT1) ?_;rintro v34 rfl;refine wTM hT1 ?_;refine cBM h (λ_ h=>?_) λ_ h=>?_
 .obtain⟨y5,g6,h⟩:=bsM h;refine sXM (anM ((zbW g6).1.1) (anM ((zbW g6).1.2) (anM @qcV (anM (miM g6) (muM g6))))) ?_;obtain⟨o5,j5,h⟩:=bsM h;obtain⟨T5,hT5⟩:=zce hT1 λa:(Int×(List Int))=>uKM (T1 v34) [2] [(4,(.ptr 4 0)),(5,(dI a.1))] [(0,.gone)] [.els 1 (a.2.map ((eI .i64).c true)),.els 1 (y5.map ((eI .u64).c true)),.cells [(dI p0.grain),(fzE false zaa p0.nodes),(.sl 2 0 1 (Int.toNat (p0.nodes.length:Int)) (some (Int.toNat (p0.nodes.length:Int))) (Int.toNat (p0.nodes.length:Int))),(.sl 3 0 1 (Int.toNat (p0.nodes.length:Int)) (some (Int.toNat (p0.nodes.length:Int))) (Int.toNat (p0.nodes.length:Int))),zhT]]
  refine EvL.jn T5 (λa=>o5=.go a/\a.2.length=(Int.toNat (p0.nodes.length:Int))) ?_ ?_
  .refine wSM ?_;obtain⟨T8,hT8⟩:=zce hT1 λa:(Int×Int×(List Int))=>uKM (T1 v34) [2] [(4,(.ptr 4 0)),(5,(dI a.1)),(48,(fzE false zaa p0.nodes)),(49,(dI (p0.nodes.length:Int))),(50,(dI a.2.1))] [(0,.gone)] [.els 1 (a.2.2.map ((eI .i64).c true)),.els 1 (y5.map ((eI .u64).c true)),.cells [(dI p0.grain),(fzE false zaa p0.nodes),(.sl 2 0 1 (Int.toNat (p0.nodes.length:Int)) (some (Int.toNat (p0.nodes.length:Int))) (Int.toNat (p0.nodes.length:Int))),(.sl 3 0 1 (Int.toNat (p0.nodes.length:Int)) (some (Int.toNat (p0.nodes.length:Int))) (Int.toNat (p0.nodes.length:Int))),zhT]]
   refine rdM hT8 (λn a=>zbC p0 n a.1 a.2.1 a.2.2=some o5/\a.2.2.length=(Int.toNat (p0.nodes.length:Int))) (1,0,y5) ⟨j5,zdg g6⟩ ?_;rintro n ⟨v5,v50,l2⟩ ⟨j5,el2⟩;simp only[zbC]at j5;refine wTM hT8 ?_;refine cBM j5 (λ_ j5=>?_) λ_ j5=>?_
   .obtain rfl:=qaf j5;exact zct hT5 _ ⟨rfl,el2⟩
   obtain⟨x8,g9,j5⟩:=bsM j5;refine sXM (anM @zaf (zas (n:=3) (e:=zaa) rfl g9)) ?_;obtain⟨o9,j9,j5⟩:=bsM j5;obtain⟨T9,hT9⟩:=zce hT8 λa:Bool=>uDM (T8 (v5,v50,l2)) [] [(6,(dI v50)),(7,(.ptr 5 0)),(62,(dB a))] [] [.cells [(dI x8.zap),(fzE false (eI .i64) x8.parents),(fzE false (eL (eI .i64)) x8.rows)]]
   refine EvL.jn T9 _ (bJM j9 hT9) ?_;rintro v62 rfl;refine wTM hT9 ?_;refine cBM j5 (λ_ j5=>?_) λ_ j5=>?_
   .obtain⟨x12,g13,j5⟩:=bsM j5;obtain⟨y14,g15,j5⟩:=bsM j5;refine sXM (anM el2 (anM (zbp g13) (anM (ltM el2 g13) (anM (giM g13) (siM g15))))) ?_;exact zct hT8 ((w64 (v5 * x8.zap)),(w64 (v50+1)),y14) ⟨j5,(zbU g15).trans el2⟩
   obtain rfl:=qaf j5;exact rHM h
  rintro⟨v5,l2⟩ ⟨rfl,el2⟩;dsimp only at h;refine wTM hT5 ?_;refine cBM h (λ_ h=>?_) λ_ h=>?_
  .obtain⟨o34,j34,h⟩:=bsM h;obtain⟨T34,hT34⟩:=zce hT5 λa:(List Int)=>uDM (T5 (v5,l2)) [5] [] [(3,.els 1 (a.map ((eI .u64).c true)))] []
   refine EvL.jn T34 (λa=>o34=.go a/\a.length=(Int.toNat (p0.nodes.length:Int))) ?_ ?_
   .refine wSM ?_;obtain⟨T51,hT51⟩:=zce hT5 λa:(Int×(List Int))=>uDM (T5 (v5,l2)) [5] [(80,(fzE false zaa p0.nodes)),(81,(dI (p0.nodes.length:Int))),(82,(dI a.1))] [(3,.els 1 (a.2.map ((eI .u64).c true)))] []
    refine rdM hT51 (λn a=>zbB p0 l2 n a.1 a.2=some o34/\a.2.length=(Int.toNat (p0.nodes.length:Int))) (0,y5) ⟨j34,zdg g6⟩ ?_;rintro n ⟨v82,l3⟩ ⟨j34,el3⟩;simp only[zbB]at j34;refine wTM hT51 ?_;refine cBM j34 (λ_ j34=>?_) λ_ j34=>?_
    .obtain rfl:=qaf j34;exact zct hT34 _ ⟨rfl,el3⟩
    obtain⟨x18,g19,j34⟩:=bsM j34;refine sXM (anM @zaf (zas (n:=3) (e:=zaa) rfl g19)) ?_;obtain⟨o55,j55,j34⟩:=bsM j34;obtain⟨T55,hT55⟩:=zce hT51 λa:(List Int)=>uDM (T51 (v82,l3)) [] [(9,(.ptr 5 0))] [(3,.els 1 (a.map ((eI .u64).c true)))] [.cells [(dI x18.zap),(fzE false (eI .i64) x18.parents),(fzE false (eL (eI .i64)) x18.rows)]]
    refine EvL.jn T55 (λa=>o55=.go a/\a.length=(Int.toNat (p0.nodes.length:Int))) ?_ ?_
    .refine wSM ?_;obtain⟨T58,hT58⟩:=zce hT51 λa:(Int×Int×(List Int))=>uDM (T51 (v82,l3)) [] [(8,(dI v82)),(9,(.ptr 5 0)),(10,(dI a.1)),(88,(fzE false (eI .i64) x18.parents)),(89,(dI (x18.parents.length:Int))),(90,(dI a.2.1))] [(3,.els 1 (a.2.2.map ((eI .u64).c true)))] [.cells [(dI x18.zap),(fzE false (eI .i64) x18.parents),(fzE false (eL (eI .i64)) x18.rows)]]
     refine rdM hT58 (λn a=>zb9 x18 p0 v82 n a.1 a.2.1 a.2.2=some o55/\a.2.2.length=(Int.toNat (p0.nodes.length:Int))) ((-1),0,l3) ⟨j55,el3⟩ ?_;rintro n ⟨v10,v90,l3'⟩ ⟨j55,el3'⟩;simp only[zb9]at j55;refine wTM hT58 ?_;refine cBM j55 (λ_ j55=>?_) λ_ j55=>?_
     .obtain rfl:=qaf j55;exact zct hT55 _ ⟨rfl,el3'⟩
     obtain⟨x21,g22,j55⟩:=bsM j55;refine sXM (ixM g22) ?_;obtain⟨o59,j59,j55⟩:=bsM j55;obtain⟨T59,hT59⟩:=zce hT58 λa:Bool=>uDM (T58 (v10,v90,l3')) [10] [(12,(dI x21)),(109,(dB a))] [] []
     refine EvL.jn T59 _ (bJM j59 hT59) ?_;rintro v109 rfl;refine wTM hT59 ?_;refine cBM j55 (λ_ j55=>?_) λ_ j55=>?_
     .obtain⟨x26,g27,j55⟩:=bsM j55;obtain⟨q28,g29,j55⟩:=bsM j55;obtain⟨y30,g31,j55⟩:=bsM j55;refine sXM (anM el3' (anM (zbp g27) (anM (ltM el3' g27) (anM (guM g27) (anM ((zaN g29).1) (anM ((zaN g29).2) (suM g31))))))) ?_;exact zct hT58 (x21,(w64 (v90+1)),y30) ⟨j55,(zbU g31).trans el3'⟩
     obtain rfl:=qaf j55;obtain rfl:=qaf j34;exact rHM h
    rintro l3' ⟨rfl,el3'⟩;dsimp only at j34;refine wTM hT55 ?_;obtain⟨r32,g33,j34⟩:=bsM j34;refine sSM ?_;refine fCM (zfz g33) ?_;refine cBM j34 (λ_ j34=>?_) λ_ j34=>?_
    .obtain rfl:=qaf j34;exact rHM h
    exact zct hT51 ((w64 (v82+1)),l3') ⟨j34,el3'⟩
   rintro l3 ⟨rfl,el3⟩;dsimp only at h;refine wTM hT34 ?_;obtain⟨r35,g36,h⟩:=bsM h;refine sSM ?_;refine fCM (zla g36) ?_;refine cBM h (λ_ h=>?_) λ_ h=>?_
   .exact rHM h
   exact rHM h
  exact rHM h
 exact rHM h
def zcz(p0:(List Int))(v4:Int)(v5:Int):Nat->Bool->Int->Option Bool
 | 0,_,_=>none
 | n+1,v6',v7=>(
bif (decide (v7<(p0.length:Int)))then(
((bif v6' then(
some true)
else(
(zaz p0 v7).bind λx16=>
(zbk x16 v4).bind λr18=>
bif r18 then(
(zbk x16 v5).bind λr21=>
some r21)
else(
some false)):Option Bool)).bind λv6''=>
zcz p0 v4 v5 n v6'' (w64 (v7+1)))
else(
some v6'))
def zcG(p0:(List Int))(v4:Int):Nat->Int->(List Int)->Option (List Int)
 | 0,_,_=>none
 | n+1,v5,l0'=>(
bif (decide (v5<(p0.length:Int)))then(
(((zaz p0 v4).bind λx5=>
(zbk x5 v5).bind λr7=>
bif r7 then(
some true)
else(
(zaz p0 v5).bind λx10=>
(zbk x10 v4).bind λr12=>
some r12):Option Bool)).bind λv6=>
((zcz p0 v4 v5 ((p0.length:Int) - 0+2:Int).toNat v6 0:Option Bool)).bind λv6'=>
((bif (v4 == v5)then(
some false)
else(
some v6'):Option Bool)).bind λv65=>
((bif v65 then(
(zaz l0' v4).bind λx25=>
(zjl .u64 1 (IntKind.u64.wrap v5)).bind λq27=>
(zeU l0' v4 (orI .u64 x25 q27)).bind λy29=>
some y29)
else(
some l0'):Option (List Int))).bind λl0''=>
zcG p0 v4 n (w64 (v5+1)) l0'')
else(
some l0'))
def zdb(p0:(List Int)):Nat->Int->(List Int)->Option (List Int)
 | 0,_,_=>none
 | n+1,v4,l0=>(
bif (decide (v4<(p0.length:Int)))then(
((zcG p0 v4 ((p0.length:Int) - 0+2:Int).toNat 0 l0:Option (List Int))).bind λl0'=>
zdb p0 n (w64 (v4+1)) l0')
else(
some l0))
def zel(p0:(List Int)):Option (List Int):=
(zem 8 (p0.length:Int) 0).bind λy1=>
((zdb p0 ((p0.length:Int) - 0+2:Int).toNat 0 y1:Option (List Int))).bind λl0=>
some l0
theorem zmv{p0:(List Int)}{r:(List Int)}(h:zel p0=some r):Lx.Fn mC 86 [(fzE false (eI .u64) p0)] (fzE true (eI .u64) r):=by
 refine gnO ?_;unfold zel at h;refine zad ?_;obtain⟨y1,g2,h⟩:=bsM h;refine sXM (anM ((zbW g2).1.1) (anM ((zbW g2).1.2) (anM @qcV (muM g2)))) ?_;obtain⟨o223,j223,h⟩:=bsM h;obtain⟨T223,hT223⟩:∃ T:(List Int)->LSt,T=(λa=>⟨78,[(3,(.sl 0 0 1 (Int.toNat (p0.length:Int)) (some (Int.toNat (p0.length:Int))) (Int.toNat (p0.length:Int))))],[.els 1 (a.map ((eI .u64).c true))]⟩):=⟨_,rfl⟩;refine EvL.jn T223 (λa=>a=o223/\a.length=(Int.toNat (p0.length:Int))) ?_ ?_
 .refine wSM ?_;obtain⟨T378,hT378⟩:∃ T:(Int×(List Int))->LSt,T=(λa=>⟨78,[(0,(fzE false (eI .u64) p0)),(3,(.sl 0 0 1 (Int.toNat (p0.length:Int)) (some (Int.toNat (p0.length:Int))) (Int.toNat (p0.length:Int)))),(4,(dI a.1))],[.els 1 (a.2.map ((eI .u64).c true))]⟩):=⟨_,rfl⟩;refine rdM hT378 (λn a=>zdb p0 n a.1 a.2=some o223/\a.2.length=(Int.toNat (p0.length:Int))) (0,y1) ⟨j223,zdg g2⟩ ?_;rintro n ⟨v4,l0⟩ ⟨j223,el0⟩;simp only[zdb]at j223;refine wTM hT378 ?_;refine cBM j223 (λ_ j223=>?_) λ_ j223=>?_
  .obtain rfl:=qaf j223;exact zct hT223 _ ⟨rfl,el0⟩
  obtain⟨o412,j412,j223⟩:=bsM j223;obtain⟨T412,hT412⟩:=zce hT378 λa:(List Int)=>uDM (T378 (v4,l0)) [] [] [(0,.els 1 (a.map ((eI .u64).c true)))] []
  refine EvL.jn T412 (λa=>a=o412/\a.length=(Int.toNat (p0.length:Int))) ?_ ?_
  .refine wSM ?_;obtain⟨T435,hT435⟩:=zce hT378 λa:(Int×(List Int))=>uDM (T378 (v4,l0)) [] [(5,(dI a.1))] [(0,.els 1 (a.2.map ((eI .u64).c true)))] []
   refine rdM hT435 (λn a=>zcG p0 v4 n a.1 a.2=some o412/\a.2.length=(Int.toNat (p0.length:Int))) (0,l0) ⟨j412,el0⟩ ?_;rintro n ⟨v5,l0'⟩ ⟨j412,el0'⟩;simp only[zcG]at j412;refine wTM hT435 ?_;refine cBM j412 (λ_ j412=>?_) λ_ j412=>?_
   .obtain rfl:=qaf j412;exact zct hT412 _ ⟨rfl,el0'⟩
   obtain⟨o436,j436,j412⟩:=bsM j412;obtain⟨T436,hT436⟩:=zce hT435 λa:Bool=>uDM (T435 (v5,l0')) [] [(6,(dB a))] [] []
   refine EvL.jn T436 (λa=>a=o436) ?_ ?_
   .refine zad ?_;obtain⟨x5,g6,j436⟩:=bsM j436;obtain⟨r7,g8,j436⟩:=bsM j436;refine sXM (zas (n:=1) (e:=(eI .u64)) rfl g6) ?_;refine fCM (zcS g8) ?_;refine cBM j436 (λ_ j436=>?_) λ_ j436=>?_
    .obtain⟨x10,g11,j436⟩:=bsM j436;obtain⟨r12,g13,j436⟩:=bsM j436;refine sXM (zas (n:=1) (e:=(eI .u64)) rfl g11) ?_;refine fCM (zcS g13) ?_;exact zcf j436 hT436
    refine EvL.skip rfl ?_;refine sSM ?_;exact zcf j436 hT436
   rintro v6 rfl;refine wTM hT436 ?_;obtain⟨o440,j440,j412⟩:=bsM j412;obtain⟨T440,hT440⟩:=zce hT436 λa:Bool=>uDM (T436 v6) [6] [(6,(dB a))] [] []
   refine EvL.jn T440 (λa=>a=o440) ?_ ?_
   .refine wSM ?_;obtain⟨T443,hT443⟩:=zce hT436 λa:(Bool×Int)=>uDM (T436 v6) [6] [(6,(dB a.1)),(7,(dI a.2))] [] []
    refine rdM hT443 (λn a=>zcz p0 v4 v5 n a.1 a.2=some o440) (v6,0) j440 ?_;rintro n ⟨v6',v7⟩ j440;simp only[zcz]at j440;refine wTM hT443 ?_;refine cBM j440 (λ_ j440=>?_) λ_ j440=>?_
    .exact zcf j440 hT440
    obtain⟨o444,j444,j440⟩:=bsM j440;obtain⟨T444,hT444⟩:=zce hT443 λa:Bool=>uDM (T443 (v6',v7)) [6] [(6,(dB a))] [] []
    refine EvL.jn T444 (λa=>a=o444) ?_ ?_
    .refine wSM ?_;refine cBM j444 (λ_ j444=>?_) λ_ j444=>?_
     .obtain⟨x16,g17,j444⟩:=bsM j444;obtain⟨r18,g19,j444⟩:=bsM j444;refine sXM (zas (n:=1) (e:=(eI .u64)) rfl g17) ?_;refine fCM (zcS g19) ?_;refine cBM j444 (λ_ j444=>?_) λ_ j444=>?_
      .refine EvL.skip rfl ?_;refine sSM ?_;exact zcf j444 hT444
      obtain⟨r21,g22,j444⟩:=bsM j444;refine sXM (zas (n:=1) (e:=(eI .u64)) rfl g17) ?_;refine fCM (zcS g22) ?_;exact zcf j444 hT444
     refine EvL.skip rfl ?_;refine sSM ?_;refine EvL.skip rfl ?_;refine sSM ?_;exact zcf j444 hT444
    rintro v6'' rfl;refine wTM hT444 ?_;exact zct hT443 (v6'',(w64 (v7+1))) j440
   rintro v6' rfl;refine wTM hT440 ?_;obtain⟨o445,j445,j412⟩:=bsM j412;obtain⟨T445,hT445⟩:=zce hT436 λa:Bool=>uDM (T436 v6) [6] [(65,(dB a))] [] []
   refine EvL.jn T445 _ (bJM j445 hT445) ?_;rintro v65 rfl;refine wTM hT445 ?_;obtain⟨o446,j446,j412⟩:=bsM j412;obtain⟨T446,hT446⟩:=zce hT436 λa:(List Int)=>uDM (T436 v6) [6] [] [(0,.els 1 (a.map ((eI .u64).c true)))] []
   refine EvL.jn T446 (λa=>a=o446/\a.length=(Int.toNat (p0.length:Int))) ?_ ?_
   .refine wSM ?_;refine cBM j446 (λ_ j446=>?_) λ_ j446=>?_
    .obtain rfl:=qaf j446;exact zct hT446 _ ⟨rfl,el0'⟩
    obtain⟨x25,g26,j446⟩:=bsM j446;obtain⟨q27,g28,j446⟩:=bsM j446;obtain⟨y29,g30,j446⟩:=bsM j446;refine sXM (anM el0' (anM (zbp g26) (anM (ltM el0' g26) (anM (guM g26) (anM ((zaN g28).1) (anM ((zaN g28).2) (suM g30))))))) ?_;obtain rfl:=qaf j446;exact zct hT446 _ ⟨rfl,(zbU g30).trans el0'⟩
   rintro l0'' ⟨rfl,el0''⟩;refine wTM hT446 ?_;exact zct hT435 ((w64 (v5+1)),l0'') ⟨j412,el0''⟩
  rintro l0' ⟨rfl,el0'⟩;refine wTM hT412 ?_;exact zct hT378 ((w64 (v4+1)),l0') ⟨j223,el0'⟩
 rintro l0 ⟨rfl,el0⟩;refine wTM hT223 ?_;exact rHM h
def zd3(r1:(S_factor_table×Int))(r4:Int)(p2:Int)(q21:Int):List (Int×Int×(List Int))->(List Int)->Option (List Int)
 | [],l5=>some l5
 | y31 :: ys,l5=>(
(zaz r1.1.steps r4).bind λx32=>
(zaz r1.1.factor.w (w64 (y31.2.1+(w64 (p2 * x32))))).bind λx34=>
(zaz l5 y31.1).bind λx36=>
(zeU l5 y31.1 x34).bind λy38=>
zd3 r1 r4 p2 q21 ys y38)
def zes(p0:S_api_Factor)(p1:Int)(p2:Int):Option (S_api_Factor×Int):=
(zdj p0).bind λr1=>
bif (r1.2 == 0)then(
(zaZ r1.1 p1).bind λr4=>
bif (decide (r4<0))then(
some ((S_api_Factor.mk [] [] []),4))
else(
((bif (decide (p2<0))then(
some true)
else(
(zaz r1.1.factor.zaK r4).bind λx8=>
some (decide (x8<=p2))):Option Bool)).bind λv42=>
bif v42 then(
some ((S_api_Factor.mk [] [] []),2))
else(
(zfW 8 r1.1.factor.vars).bind λy11=>
(zAr y11 r4 (w64 (r4+1))).bind λy13=>
(zfW 8 r1.1.factor.zaK).bind λy15=>
(zAr y15 r4 (w64 (r4+1))).bind λy17=>
(zaz r1.1.factor.zaK r4).bind λx19=>
(zvI .i64 (r1.1.factor.w.length:Int) x19).bind λq21=>
(zem 8 q21 0).bind λy23=>
(zcQ r1.1 y13).bind λr25=>
(zdZ y17 r25).bind λr27=>
(zCH r27.1 r27.2).bind λu29=>
((zd3 r1 r4 p2 q21 u29 y23:Option (List Int))).bind λl5=>
some ((S_api_Factor.mk y13 y17 l5),0))))
else(
some ((S_api_Factor.mk [] [] []),r1.2))
def zaY(p1:(List Int))(r1:(S_net_network×Int)):Nat->Int->Option (Out Unit Int)
 | 0,_=>none
 | n+1,v26=>(
bif (decide (v26<(p1.length:Int)))then(
(zaz p1 v26).bind λx6=>
((bif (decide (x6<(-1)))then(
some true)
else(
(zaz r1.1.zaK v26).bind λx9=>
some (decide (x9<=x6))):Option Bool)).bind λv41=>
bif v41 then(
some (.ret 2))
else(
zaY p1 r1 n (w64 (v26+1))))
else(
some (.go ())))
def za4(p0:S_api_Net)(p1:(List Int)):Option Int:=
(zc2 p0).bind λr1=>
bif (r1.2 == 0)then(
bif ((p1.length:Int)==(r1.1.net.nodes.length:Int))then(
((zaY p1 r1 ((p1.length:Int) - 0+2:Int).toNat 0:Option (Out Unit Int))).bind λo=>match o with
| .go _=>(
some 0)
| .ret r=>some r)
else(
some 2))
else(
some r1.2)
variable{r:Int}
theorem zgg{p1:(List Int)}(h:za4 p0 p1=some r):Lx.Fn mC 67 [(.agg [(dI p0.grain),(fzE false zaa p0.nodes)]),(fzE false (eI .i64) p1)] (dI r):=by
 refine gnO ?_;unfold za4 at h;refine zad ?_;obtain⟨r1,g2,h⟩:=bsM h;refine sSM ?_;refine fDM (zpr g2) ?_;refine cBM h (λ_ h=>?_) λ_ h=>?_
 .exact rHM h
 refine cBM h (λ_ h=>?_) λ_ h=>?_
 .exact rHM h
 obtain⟨o4,j4,h⟩:=bsM h;obtain⟨T4,hT4⟩:∃ T:Unit->LSt,T=(λa=>⟨43,[],[]⟩):=⟨_,rfl⟩;refine EvL.jn T4 (λa=>o4=.go a) ?_ ?_
 .refine wSM ?_;obtain⟨T7,hT7⟩:∃ T:Int->LSt,T=(λa=>⟨43,[(5,(.ptr 1 0)),(24,(fzE false (eI .i64) p1)),(25,(dI (p1.length:Int))),(26,(dI a))],[.gone,.cells [(dI r1.1.net.grain),(fzE false zaa r1.1.net.nodes),(fzE false (eI .i64) r1.1.zaK),(fzE false (eI .u64) r1.1.sets),(fzE false (eI .i64) r1.1.order)]]⟩):=⟨_,rfl⟩;refine rdM hT7 (λn a=>zaY p1 r1 n a=some o4) 0 j4 ?_;rintro n v26 j4;simp only[zaY]at j4;refine wTM hT7 ?_;refine cBM j4 (λ_ j4=>?_) λ_ j4=>?_
  .exact zwa j4 hT4
  obtain⟨x6,g7,j4⟩:=bsM j4;refine sXM (ixM g7) ?_;obtain⟨o8,j8,j4⟩:=bsM j4;obtain⟨T8,hT8⟩:=zce hT7 λa:Bool=>uDM (T7 v26) [] [(41,(dB a))] [] []
  refine EvL.jn T8 (λa=>a=o8) ?_ ?_
  .refine wSM ?_;refine cBM j8 (λ_ j8=>?_) λ_ j8=>?_
   .obtain⟨x9,g10,j8⟩:=bsM j8;refine sXM (ixM g10) ?_;exact zcf j8 hT8
   exact zcf j8 hT8
  rintro v41 rfl;refine wTM hT8 ?_;refine cBM j4 (λ_ j4=>?_) λ_ j4=>?_
  .exact zct hT7 (w64 (v26+1)) j4
  obtain rfl:=qaf j4;exact rHM h
 rintro⟨⟩ rfl;dsimp only at h;refine wTM hT4 ?_;exact rHM h
def zbz(p0:S_api_Net)(p1:(List Int))(p2:Int):Option (S_eliminate_query×Int):=
(za4 p0 p1).bind λr1=>
bif (r1 == 0)then(
((bif (decide (p2<0))then(
some true)
else(
some (decide ((p0.nodes.length:Int)<=p2))):Option Bool)).bind λv24=>
bif v24 then(
some ((S_eliminate_query.mk (S_api_Net.mk 0 []) [] 0),2))
else(
some ((S_eliminate_query.mk p0 p1 p2),0)))
else(
some ((S_eliminate_query.mk (S_api_Net.mk 0 []) [] 0),r1))
theorem zij{p1:(List Int)}{p2:Int}{r:(S_eliminate_query×Int)}(h:zbz p0 p1 p2=some r):Lx.FnA mC 39 [(.agg [(dI p0.grain),(fzE false zaa p0.nodes)]),(fzE false (eI .i64) p1),(dI p2)] (.tup [(.agg [(dI r.1.net.grain),(fzE false zaa r.1.net.nodes),(fzE false (eI .i64) r.1.known),(dI r.1.node)]),(dI r.2)]):=by
 refine zCP ?_;unfold zbz at h;refine zad ?_;obtain⟨r1,g2,h⟩:=bsM h;refine sSM ?_;refine fCM (zgg g2) ?_;refine cBM h (λ_ h=>?_) λ_ h=>?_
 .exact rHM h
 obtain⟨o1,j1,h⟩:=bsM h;obtain⟨T1,hT1⟩:∃ T:Bool->LSt,T=(λa=>⟨30,[(1,(fzE false (eI .i64) p1)),(2,(dI p2)),(3,(.ptr 0 0)),(6,(.ptr 1 0)),(24,(dB a))],[.cells [(dI p0.grain),(fzE false zaa p0.nodes)],.cells [(dI 0),zhT,zhT,(dI 0)]]⟩):=⟨_,rfl⟩;refine EvL.jn T1 _ (bJM j1 hT1) ?_;rintro v24 rfl;refine wTM hT1 ?_;refine cBM h (λ_ h=>?_) λ_ h=>?_
 .exact rHM h
 exact rHM h
def zaM(p1:(List Int))(v11:Int)(v12:Int)(p3:Int)(p2:(List Int))(p4:Int):Nat->Int->Option (Out3 Unit (Int×Int) Int)
 | 0,_=>none
 | n+1,v20=>(
bif (decide (v20<(p1.length:Int)))then(
(zl6 .u64 (zyt .u64 (orI .u64 v11 v12) p3) v20).bind λq4=>
((bif ((zkd .u64 q4 1)== 1)then(
(zaz p2 v20).bind λx7=>
some (orI .u64 v11 x7))
else(
some v11):Option Int)).bind λv14=>
(zl6 .u64 (orI .u64 (zkd .u64 v11 p4) (zyt .u64 v12 p3)) v20).bind λq9=>
((bif ((zkd .u64 q9 1)== 1)then(
(zaz p1 v20).bind λx12=>
some (orI .u64 v12 x12))
else(
some v12):Option Int)).bind λv15=>
((bif (v14 == v11)then(
some (!(v15 == v12)))
else(
some true):Option Bool)).bind λv64=>
bif v64 then(
some (.brk (v14,v15)))
else(
zaM p1 v11 v12 p3 p2 p4 n (w64 (v20+1))))
else(
some (.go ())))
def za5(p1:(List Int))(p3:Int)(p2:(List Int))(p4:Int):Nat->Int->Int->Option (Out Unit Int)
 | 0,_,_=>none
 | n+1,v11,v12=>(
((zaM p1 v11 v12 p3 p2 p4 ((p1.length:Int) - 0+2:Int).toNat 0:Option (Out3 Unit (Int×Int) Int))).bind λo=>match o with
| .go _=>(
some (.ret (zyt .u64 (orI .u64 v11 v12) p3)))
| .brk (v11',v12')=>(
za5 p1 p3 p2 p4 n v11' v12')
| .ret r=>some (.ret r))
def zbI(N:Nat)(p0:Int)(p1:(List Int))(p2:(List Int))(p3:Int)(p4:Int):Option Int:=
(zjl .u64 1 p0).bind λq1=>
((za5 p1 p3 p2 p4 N q1 0:Option (Out Unit Int))).bind λo=>match o with
| .go _=>(
none)
| .ret r=>some r
variable{N:Nat}
theorem zgy{p0:Int}{p1:(List Int)}{p2:(List Int)}{p3:Int}{p4:Int}(h:zbI N p0 p1 p2 p3 p4=some r):Lx.Fn mC 71 [(dI p0),(fzE false (eI .u64) p1),(fzE false (eI .u64) p2),(dU p3),(dU p4)] (dU r):=by
 refine gnO ?_;unfold zbI at h;refine wSM ?_;refine EvL.scope (zad ?_);obtain⟨q1,g2,h⟩:=bsM h;refine sXM (anM ((zaN g2).1) ((zaN g2).2)) ?_;obtain⟨o210,j210,h⟩:=bsM h;obtain⟨T210,hT210⟩:∃ T:Unit->LSt,T=(λa=>⟨73,[],[]⟩):=⟨_,rfl⟩;refine EvL.jn T210 (λa=>o210=.go a) ?_ ?_
 .refine wSM ?_;obtain⟨T257,hT257⟩:∃ T:(Int×Int)->LSt,T=(λa=>⟨73,[(1,(fzE false (eI .u64) p1)),(2,(fzE false (eI .u64) p2)),(3,(dU p3)),(4,(dU p4)),(11,(dU a.1)),(12,(dU a.2))],[]⟩):=⟨_,rfl⟩;refine rdM hT257 (λn a=>za5 p1 p3 p2 p4 n a.1 a.2=some o210) (q1,0) j210 ?_;rintro n ⟨v11,v12⟩ j210;simp only[za5]at j210;refine wTM hT257 ?_;obtain⟨o270,j270,j210⟩:=bsM j210;obtain⟨T270,hT270⟩:∃ T:Unit->LSt,T=(λa=>⟨73,[(3,(dU p3)),(11,(dU v11)),(12,(dU v12))],[]⟩):=⟨_,rfl⟩;obtain⟨TB270,hTB270⟩:=zce hT257 λa:(Int×Int)=>uDM (T257 (v11,v12)) [11,12] [(11,(dU a.1)),(12,(dU a.2))] [] []
  refine EvL.jn2 (id:=1) T270 (λa=>o270=.go a) TB270 (λa=>o270=.brk a) (λid S hx=>by first | (rcases hx with⟨hx | hx,_⟩<;> cases hx)| exact hx.elim) ?_ ?_ ?_
  .refine wSM ?_;obtain⟨T277,hT277⟩:=zce hT257 λa:Int=>uDM (T257 (v11,v12)) [] [(19,(dI (p1.length:Int))),(20,(dI a))] [] []
   refine rdM hT277 (λn a=>zaM p1 v11 v12 p3 p2 p4 n a=some o270) 0 j270 ?_;rintro n v20 j270;simp only[zaM]at j270;refine wTM hT277 ?_;refine cBM j270 (λ_ j270=>?_) λ_ j270=>?_
   .obtain rfl:=qaf j270;exact zct hT270 _ rfl
   obtain⟨q4,g5,j270⟩:=bsM j270;refine sXM (anM ((zbu g5).1) ((zbu g5).2)) ?_;obtain⟨o278,j278,j270⟩:=bsM j270;obtain⟨T278,hT278⟩:=zce hT277 λa:Int=>uDM (T277 v20) [] [(13,(dI v20)),(14,(dU a)),(15,(dU v12))] [] []
   refine EvL.jn T278 (λa=>a=o278) ?_ ?_
   .refine wSM ?_;refine cBM j278 (λ_ j278=>?_) λ_ j278=>?_
    .exact zcf j278 hT278
    obtain⟨x7,g8,j278⟩:=bsM j278;refine sXM (zas (n:=1) (e:=(eI .u64)) rfl g8) ?_;exact zcf j278 hT278
   rintro v14 rfl;refine wTM hT278 ?_;obtain⟨q9,g10,j270⟩:=bsM j270;refine sXM (anM ((zbu g10).1) ((zbu g10).2)) ?_;obtain⟨o279,j279,j270⟩:=bsM j270;obtain⟨T279,hT279⟩:=zce hT278 λa:Int=>uDM (T278 v14) [13,15] [(15,(dU a))] [] []
   refine EvL.jn T279 (λa=>a=o279) ?_ ?_
   .refine wSM ?_;refine cBM j279 (λ_ j279=>?_) λ_ j279=>?_
    .exact zcf j279 hT279
    obtain⟨x12,g13,j279⟩:=bsM j279;refine sXM (zas (n:=1) (e:=(eI .u64)) rfl g13) ?_;exact zcf j279 hT279
   rintro v15 rfl;refine wTM hT279 ?_;obtain⟨o280,j280,j270⟩:=bsM j270;obtain⟨T280,hT280⟩:=zce hT279 λa:Bool=>uDM (T279 v15) [] [(64,(dB a))] [] []
   refine EvL.jn T280 _ (bJM j280 hT280) ?_;rintro v64 rfl;refine wTM hT280 ?_;refine cBM j270 (λ_ j270=>?_) λ_ j270=>?_
   .exact zct hT277 (w64 (v20+1)) j270
   obtain rfl:=qaf j270;exact zct hTB270 _ rfl
  .rintro⟨⟩ rfl;dsimp only at j210;refine wTM hT270 ?_;obtain rfl:=qaf j210;exact rHM h
  rintro⟨v11',v12'⟩ rfl;dsimp only at j210;refine wTM hTB270 ?_;exact zct hT257 (v11',v12') j210
 rintro⟨⟩ rfl;dsimp only at h;exact nomatch h
def zaD(x4:S_api_Node)(v29:Int)(p0:S_eliminate_query):Nat->Int->(List Int)->(List Int)->Option ((List Int)×(List Int))
 | 0,_,_,_=>none
 | n+1,v37,l1',l2'=>(
bif (decide (v37<(x4.parents.length:Int)))then(
(zaz x4.parents v37).bind λx7=>
(zaz l1' v29).bind λx9=>
(zjl .u64 1 x7).bind λq11=>
(zeU l1' v29 (orI .u64 x9 q11)).bind λy13=>
(zaz l2' x7).bind λx15=>
(zjl .u64 1 v29).bind λq17=>
(zeU l2' x7 (orI .u64 x15 q17)).bind λy19=>
zaD x4 v29 p0 n (w64 (v37+1)) y13 y19)
else(
some (l1',l2')))
def zav(p0:S_eliminate_query):Nat->Int->Int->(List Int)->(List Int)->Option (Int×(List Int)×(List Int))
 | 0,_,_,_,_=>none
 | n+1,v5,v29,l1,l2=>(
bif (decide (v29<(p0.net.nodes.length:Int)))then(
(zaz p0.net.nodes v29).bind λx4=>
((zaD x4 v29 p0 ((x4.parents.length:Int) - 0+2:Int).toNat 0 l1 l2:Option (((List Int)×(List Int))))).bind λo=>match o with
|(l1',l2')=>(
(zaz p0.known v29).bind λx21=>
((bif (decide (0<=x21))then(
(zjl .u64 1 v29).bind λq24=>
some (orI .u64 v5 q24))
else(
some v5):Option Int)).bind λv5'=>
zav p0 n v5' (w64 (v29+1)) l1' l2'))
else(
some (v5,l1,l2)))
def zaF(p0:S_eliminate_query)(l1:(List Int)):Nat->Int->Int->Option Int
 | 0,_,_=>none
 | n+1,v5'',v78=>(
bif (decide (v78<(((Int.toNat (p0.net.nodes.length:Int)):Nat):Int)))then(
(zaz l1 v78).bind λx28=>
(zl6 .u64 v5'' v78).bind λq30=>
((bif ((zkd .u64 q30 1)== 1)then(
some (orI .u64 v5'' x28))
else(
some v5''):Option Int)).bind λv5'''=>
zaF p0 l1 n v5''' (w64 (v78+1)))
else(
some v5''))
def zat(p0:S_eliminate_query)(l1:(List Int)):Nat->Int->Int->Option Int
 | 0,_,_=>none
 | n+1,v5',v74=>(
bif (decide (v74<(p0.net.nodes.length:Int)))then(
((zaF p0 l1 ((((Int.toNat (p0.net.nodes.length:Int)):Nat):Int) - 0+2:Int).toNat v5' 0:Option Int)).bind λv5''=>
zat p0 l1 n v5'' (w64 (v74+1)))
else(
some v5'))
def zaE(N:Nat)(p0:S_eliminate_query)(l1:(List Int))(l2:(List Int))(v5:Int)(v5':Int):Nat->Int->Int->Option Int
 | 0,_,_=>none
 | n+1,v13,v103=>(
bif (decide (v103<(p0.net.nodes.length:Int)))then(
(zbI N v103 l1 l2 v5 v5').bind λr37=>
(zl6 .u64 r37 p0.node).bind λq39=>
((bif ((zkd .u64 q39 1)== 1)then(
(zjl .u64 1 v103).bind λq42=>
some (orI .u64 v13 q42))
else(
some v13):Option Int)).bind λv13'=>
zaE N p0 l1 l2 v5 v5' n v13' (w64 (v103+1)))
else(
some v13))
def zaH(N:Nat)(p0:S_eliminate_query):Option Int:=
(zem 8 (p0.net.nodes.length:Int) 0).bind λy1=>
((zav p0 ((p0.net.nodes.length:Int) - 0+2:Int).toNat 0 0 y1 y1:Option ((Int×(List Int)×(List Int))))).bind λo=>match o with
|(v5,l1,l2)=>(
((zat p0 l1 ((p0.net.nodes.length:Int) - 0+2:Int).toNat v5 0:Option Int)).bind λv5'=>
(zl6 .u64 v5 p0.node).bind λq33=>
bif ((zkd .u64 q33 1)== 1)then(
some 0)
else(
((zaE N p0 l1 l2 v5 v5' ((p0.net.nodes.length:Int) - 0+2:Int).toNat 0 0:Option Int)).bind λv13=>
some v13))
theorem zeE{p0:S_eliminate_query}(h:zaH N p0=some r):Lx.Fn mC 43 [(.agg [(dI p0.net.grain),(fzE false zaa p0.net.nodes),(fzE false (eI .i64) p0.known),(dI p0.node)])] (dU r):=by
 refine gnO ?_;unfold zaH at h;refine zad ?_;obtain⟨y1,g2,h⟩:=bsM h;refine sXM (anM ((zbW g2).1.1) (anM ((zbW g2).1.2) (anM @qcV (muM g2)))) ?_;obtain⟨o10,j10,h⟩:=bsM h;obtain⟨T10,hT10⟩:∃ T:(Int×(List Int)×(List Int))->LSt,T=(λa=>⟨123,[(1,(.ptr 0 0)),(3,(.sl 1 0 1 (Int.toNat (p0.net.nodes.length:Int)) (some (Int.toNat (p0.net.nodes.length:Int))) (Int.toNat (p0.net.nodes.length:Int)))),(4,(.sl 2 0 1 (Int.toNat (p0.net.nodes.length:Int)) (some (Int.toNat (p0.net.nodes.length:Int))) (Int.toNat (p0.net.nodes.length:Int)))),(5,(dU a.1))],[.cells [(dI p0.net.grain),(fzE false zaa p0.net.nodes),(fzE false (eI .i64) p0.known),(dI p0.node)],.els 1 (a.2.1.map ((eI .u64).c true)),.els 1 (a.2.2.map ((eI .u64).c true))]⟩):=⟨_,rfl⟩;refine EvL.jn T10 (λa=>a=o10/\a.2.1.length=(Int.toNat (p0.net.nodes.length:Int))/\a.2.2.length=(Int.toNat (p0.net.nodes.length:Int))) ?_ ?_
 .refine wSM ?_;obtain⟨T17,hT17⟩:∃ T:(Int×Int×(List Int)×(List Int))->LSt,T=(λa=>⟨123,[(1,(.ptr 0 0)),(3,(.sl 1 0 1 (Int.toNat (p0.net.nodes.length:Int)) (some (Int.toNat (p0.net.nodes.length:Int))) (Int.toNat (p0.net.nodes.length:Int)))),(4,(.sl 2 0 1 (Int.toNat (p0.net.nodes.length:Int)) (some (Int.toNat (p0.net.nodes.length:Int))) (Int.toNat (p0.net.nodes.length:Int)))),(5,(dU a.1)),(27,(fzE false zaa p0.net.nodes)),(28,(dI (p0.net.nodes.length:Int))),(29,(dI a.2.1))],[.cells [(dI p0.net.grain),(fzE false zaa p0.net.nodes),(fzE false (eI .i64) p0.known),(dI p0.node)],.els 1 (a.2.2.1.map ((eI .u64).c true)),.els 1 (a.2.2.2.map ((eI .u64).c true))]⟩):=⟨_,rfl⟩;refine rdM hT17 (λn a=>zav p0 n a.1 a.2.1 a.2.2.1 a.2.2.2=some o10/\a.2.2.1.length=(Int.toNat (p0.net.nodes.length:Int))/\a.2.2.2.length=(Int.toNat (p0.net.nodes.length:Int))) (0,0,y1,y1) ⟨j10,zdg g2,zdg g2⟩ ?_;rintro n ⟨v5,v29,l1,l2⟩ ⟨j10,el1,el2⟩;simp only[zav]at j10;refine wTM hT17 ?_;refine cBM j10 (λ_ j10=>?_) λ_ j10=>?_
  .obtain rfl:=qaf j10;exact zct hT10 _ ⟨rfl,el1,el2⟩
  obtain⟨x4,g5,j10⟩:=bsM j10;refine sXM (anM @zaf (zas (n:=3) (e:=zaa) rfl g5)) ?_;obtain⟨o18,j18,j10⟩:=bsM j10;obtain⟨T18,hT18⟩:=zce hT17 λa:((List Int)×(List Int))=>uDM (T17 (v5,v29,l1,l2)) [] [(6,(dI v29))] [(1,.els 1 (a.1.map ((eI .u64).c true))),(2,.els 1 (a.2.map ((eI .u64).c true)))] []
  refine EvL.jn T18 (λa=>a=o18/\a.1.length=(Int.toNat (p0.net.nodes.length:Int))/\a.2.length=(Int.toNat (p0.net.nodes.length:Int))) ?_ ?_
  .refine wSM ?_;obtain⟨T19,hT19⟩:=zce hT17 λa:(Int×(List Int)×(List Int))=>uDM (T17 (v5,v29,l1,l2)) [] [(6,(dI v29)),(35,(fzE false (eI .i64) x4.parents)),(36,(dI (x4.parents.length:Int))),(37,(dI a.1))] [(1,.els 1 (a.2.1.map ((eI .u64).c true))),(2,.els 1 (a.2.2.map ((eI .u64).c true)))] []
   refine rdM hT19 (λn a=>zaD x4 v29 p0 n a.1 a.2.1 a.2.2=some o18/\a.2.1.length=(Int.toNat (p0.net.nodes.length:Int))/\a.2.2.length=(Int.toNat (p0.net.nodes.length:Int))) (0,l1,l2) ⟨j18,el1,el2⟩ ?_;rintro n ⟨v37,l1',l2'⟩ ⟨j18,el1',el2'⟩;simp only[zaD]at j18;refine wTM hT19 ?_;refine cBM j18 (λ_ j18=>?_) λ_ j18=>?_
   .obtain rfl:=qaf j18;exact zct hT18 _ ⟨rfl,el1',el2'⟩
   obtain⟨x7,g8,j18⟩:=bsM j18;obtain⟨x9,g10,j18⟩:=bsM j18;obtain⟨q11,g12,j18⟩:=bsM j18;obtain⟨y13,g14,j18⟩:=bsM j18;obtain⟨x15,g16,j18⟩:=bsM j18;obtain⟨q17,g18,j18⟩:=bsM j18;obtain⟨y19,g20,j18⟩:=bsM j18;refine sXM (anM (ixM g8) (anM el1' (anM (zbp g10) (anM (ltM el1' g10) (anM (guM g10) (anM ((zaN g12).1) (anM ((zaN g12).2) (anM (suM g14) (anM el2' (anM (ltM el2' g16) (anM (guM g16) (anM ((zaN g18).2) (suM g20))))))))))))) ?_;exact zct hT19 ((w64 (v37+1)),y13,y19) ⟨j18,(zbU g14).trans el1',(zbU g20).trans el2'⟩
  rintro⟨l1',l2'⟩ ⟨rfl,el1',el2'⟩;dsimp only at j10;refine wTM hT18 ?_;obtain⟨x21,g22,j10⟩:=bsM j10;refine sXM (ixM g22) ?_;obtain⟨o20,j20,j10⟩:=bsM j10;obtain⟨T20,hT20⟩:=zce hT18 λa:Int=>uDM (T18 (l1',l2')) [5,6] [(5,(dU a))] [] []
  refine EvL.jn T20 (λa=>a=o20) ?_ ?_
  .refine wSM ?_;refine cBM j20 (λ_ j20=>?_) λ_ j20=>?_
   .exact zcf j20 hT20
   obtain⟨q24,g25,j20⟩:=bsM j20;refine sXM (anM ((zaN g25).1) ((zaN g25).2)) ?_;exact zcf j20 hT20
  rintro v5' rfl;refine wTM hT20 ?_;exact zct hT17 (v5',(w64 (v29+1)),l1',l2') ⟨j10,el1',el2'⟩
 rintro⟨v5,l1,l2⟩ ⟨rfl,el1,el2⟩;dsimp only at h;refine wTM hT10 ?_;obtain⟨o45,j45,h⟩:=bsM h;obtain⟨T45,hT45⟩:=zce hT10 λa:Int=>uDM (T10 (v5,l1,l2)) [5] [(5,(dU a)),(10,(dU v5))] [] []
 refine EvL.jn T45 (λa=>a=o45) ?_ ?_
 .refine wSM ?_;obtain⟨T62,hT62⟩:=zce hT10 λa:(Int×Int)=>uDM (T10 (v5,l1,l2)) [5] [(5,(dU a.1)),(10,(dU v5)),(73,(dI (p0.net.nodes.length:Int))),(74,(dI a.2))] [] []
  refine rdM hT62 (λn a=>zat p0 l1 n a.1 a.2=some o45) (v5,0) j45 ?_;rintro n ⟨v5',v74⟩ j45;simp only[zat]at j45;refine wTM hT62 ?_;refine cBM j45 (λ_ j45=>?_) λ_ j45=>?_
  .exact zcf j45 hT45
  refine sXM el1 ?_;obtain⟨o66,j66,j45⟩:=bsM j45;obtain⟨T66,hT66⟩:=zce hT62 λa:Int=>uDM (T62 (v5',v74)) [5] [(5,(dU a))] [] []
  refine EvL.jn T66 (λa=>a=o66) ?_ ?_
  .refine wSM ?_;obtain⟨T69,hT69⟩:=zce hT62 λa:(Int×Int)=>uDM (T62 (v5',v74)) [5] [(5,(dU a.1)),(76,(.sl 1 0 1 (Int.toNat (p0.net.nodes.length:Int)) (some (Int.toNat (p0.net.nodes.length:Int))) (Int.toNat (p0.net.nodes.length:Int)))),(77,(dI (((Int.toNat (p0.net.nodes.length:Int)):Nat):Int))),(78,(dI a.2))] [] []
   refine rdM hT69 (λn a=>zaF p0 l1 n a.1 a.2=some o66) (v5',0) j66 ?_;rintro n ⟨v5'',v78⟩ j66;simp only[zaF]at j66;refine wTM hT69 ?_;refine cBM j66 (λ_ j66=>?_) λ_ j66=>?_
   .exact zcf j66 hT66
   obtain⟨x28,g29,j66⟩:=bsM j66;obtain⟨q30,g31,j66⟩:=bsM j66;refine sXM (anM el1 (anM (zbp g29) (anM (ltM el1 g29) (anM (guM g29) ((zbu g31).2))))) ?_;obtain⟨o70,j70,j66⟩:=bsM j66;obtain⟨T70,hT70⟩:=zce hT69 λa:Int=>uDM (T69 (v5'',v78)) [5] [(5,(dU a))] [] []
   refine EvL.jn T70 _ (bJM j70 hT70) ?_;rintro v5''' rfl;refine wTM hT70 ?_;exact zct hT69 (v5''',(w64 (v78+1))) j66
  rintro v5'' rfl;refine wTM hT66 ?_;exact zct hT62 (v5'',(w64 (v74+1))) j45
 rintro v5' rfl;refine wTM hT45 ?_;obtain⟨q33,g34,h⟩:=bsM h;refine sXM (anM ((zbu g34).1) ((zbu g34).2)) ?_;refine cBM h (λ_ h=>?_) λ_ h=>?_
 .obtain⟨o74,j74,h⟩:=bsM h;obtain⟨T74,hT74⟩:∃ T:Int->LSt,T=(λa=>⟨123,[(13,(dU a))],[]⟩):=⟨_,rfl⟩;refine EvL.jn T74 (λa=>a=o74) ?_ ?_
  .refine wSM ?_;obtain⟨T77,hT77⟩:=zce hT45 λa:(Int×Int)=>uDM (T45 v5') [] [(13,(dU a.1)),(102,(dI (p0.net.nodes.length:Int))),(103,(dI a.2))] [] []
   refine rdM hT77 (λn a=>zaE N p0 l1 l2 v5 v5' n a.1 a.2=some o74) (0,0) j74 ?_;rintro n ⟨v13,v103⟩ j74;simp only[zaE]at j74;refine wTM hT77 ?_;refine cBM j74 (λ_ j74=>?_) λ_ j74=>?_
   .exact zcf j74 hT74
   obtain⟨r37,g38,j74⟩:=bsM j74;refine sSM ?_;refine fCM (zgy g38) ?_;obtain⟨q39,g40,j74⟩:=bsM j74;refine sXM (anM ((zbu g40).1) ((zbu g40).2)) ?_;obtain⟨o78,j78,j74⟩:=bsM j74;obtain⟨T78,hT78⟩:=zce hT77 λa:Int=>uDM (T77 (v13,v103)) [13] [(13,(dU a))] [] []
   refine EvL.jn T78 (λa=>a=o78) ?_ ?_
   .refine wSM ?_;refine cBM j78 (λ_ j78=>?_) λ_ j78=>?_
    .exact zcf j78 hT78
    obtain⟨q42,g43,j78⟩:=bsM j78;refine sXM (anM ((zaN g43).1) ((zaN g43).2)) ?_;exact zcf j78 hT78
   rintro v13' rfl;refine wTM hT78 ?_;exact zct hT77 (v13',(w64 (v103+1))) j74
  rintro v13 rfl;refine wTM hT74 ?_;exact rHM h
 exact rHM h
def zcn(N:Nat)(p0:S_api_Net)(p1:(List Int))(p2:Int):Option (Int×Int):=
(zbz p0 p1 p2).bind λr1=>
bif (r1.2 == 0)then(
(zaH N r1.1).bind λr4=>
some (r4,0))
else(
some (0,r1.2))
theorem zgz{p1:(List Int)}{p2:Int}{r:(Int×Int)}(h:zcn N p0 p1 p2=some r):Lx.Fn mC 22 [(.agg [(dI p0.grain),(fzE false zaa p0.nodes)]),(fzE false (eI .i64) p1),(dI p2)] (.tup [(dU r.1),(dI r.2)]):=by
 refine gnO ?_;unfold zcn at h;refine zad ?_;obtain⟨r1,g2,h⟩:=bsM h;refine sSM ?_;refine fDM (zij g2) ?_;refine cBM h (λ_ h=>?_) λ_ h=>?_
 .exact rHM h
 obtain⟨r4,g5,h⟩:=bsM h;refine sSM ?_;refine fCM (zeE g5) ?_;exact rHM h
end Go.Dc
