/-
 What net_network_filled computes. Conditions: none.
-/
import Derived.Test.YtbjogdohfhdaiaaGreatETJ4
set_option linter.unusedSimpArgs false
set_option linter.unusedVariables false
set_option maxRecDepth 100000
set_option maxHeartbeats 4000000
namespace Go.Dc
open Go Go.Mx Go.Lx Go.Proofs
def zbc(p1:S_api_Node)(p0:S_net_network):Nat->Int->Int->Option Int
 | 0,_,_=>none
 | n+1,v5,v16=>(
bif (decide (v16<(p1.parents.length:Int)))then(
(zaO p1.parents v16).bind λx2=>
(zaO p0.zae x2).bind λx4=>
zbc p1 p0 n (w64 (v5 * x4)) (w64 (v16+1)))
else(
some v5))
def zbb(y11:(Int×(List Int))):Nat->Int->Int->Option (Out Int Bool)
 | 0,_,_=>none
 | n+1,v10,v42=>(
bif (decide (v42<(y11.2.length:Int)))then(
(zaO y11.2 v42).bind λx13=>
((bif (decide (x13<0))then(
some true)
else(
some (decide (v10<x13))):Option Bool)).bind λv52=>
bif v52 then(
some (.ret false))
else(
zbb y11 n (w64 (v10 - x13)) (w64 (v42+1))))
else(
some (.go v10)))
def zaU(p0:S_net_network)(p1:S_api_Node):List (Int×(List Int))->Option (Out Unit Bool)
 | []=>some (.go ())
 | y11 :: ys=>(
((zbb y11 ((y11.2.length:Int) - 0+2:Int).toNat p0.net.grain 0:Option (Out Int Bool))).bind λo=>match o with
| .go v10=>(
((bif ((y11.2.length:Int)== p1.zaC)then(
some (!(v10 == 0)))
else(
some true):Option Bool)).bind λv65=>
bif v65 then(
some (.ret false))
else(
zaU p0 p1 ys))
| .ret r=>some (.ret r))
def zbC(p0:S_net_network)(p1:S_api_Node):Option Bool:=
((zbc p1 p0 ((p1.parents.length:Int) - 0+2:Int).toNat 1 0:Option Int)).bind λv5=>
bif ((p1.rows.length:Int)== v5)then(
(ze8 p1).bind λr7=>
(zeR r7.rows).bind λu9=>
((zaU p0 p1 (zuk r7.rows):Option (Out Unit Bool))).bind λo=>match o with
| .go _=>(
some true)
| .ret r=>some r)
else(
some false)
theorem zfV{p0:S_net_network}{p1:S_api_Node}{r:Bool}(h:zbC p0 p1=some r):Lx.Fn mC 87 [(.agg [(dI p0.net.grain),(fzE false zac p0.net.nodes),(fzE false (eI .i64) p0.zae),(fzE false (eI .u64) p0.sets),(fzE false (eI .i64) p0.order)]),(.agg [(dI p1.zaC),(fzE false (eI .i64) p1.parents),(fzE false (eL (eI .i64)) p1.rows)])] (dB r):=by
 refine gnO ?_;unfold zbC at h;refine wSM ?_;obtain⟨o1,j1,h⟩:=bsM h;obtain⟨T1,hT1⟩:=mkT λa:Int=>⟨66,[(2,(.ptr 0 0)),(3,(.ptr 1 0)),(4,(.ptr 2 0)),(5,(dI a))],[.cells [(dI p0.net.grain),(fzE false zac p0.net.nodes),(fzE false (eI .i64) p0.zae),(fzE false (eI .u64) p0.sets),(fzE false (eI .i64) p0.order)],.cells [(dI p1.zaC),(fzE false (eI .i64) p1.parents),(fzE false (eL (eI .i64)) p1.rows)],.cells [(dB false)]]⟩
 refine EvL.jn T1 (λa=>a=o1) ?_ ?_
 .refine wSM ?_;obtain⟨T2,hT2⟩:=mkT λa:(Int×Int)=>⟨66,[(2,(.ptr 0 0)),(3,(.ptr 1 0)),(4,(.ptr 2 0)),(5,(dI a.1)),(14,(fzE false (eI .i64) p1.parents)),(15,(dI (p1.parents.length:Int))),(16,(dI a.2))],[.cells [(dI p0.net.grain),(fzE false zac p0.net.nodes),(fzE false (eI .i64) p0.zae),(fzE false (eI .u64) p0.sets),(fzE false (eI .i64) p0.order)],.cells [(dI p1.zaC),(fzE false (eI .i64) p1.parents),(fzE false (eL (eI .i64)) p1.rows)],.cells [(dB false)]]⟩
  refine rdM hT2 (λn a=>zbc p1 p0 n a.1 a.2=some o1) (1,0) j1 ?_;rintro n ⟨v5,v16⟩ j1;simp only[zbc]at j1;refine wTM hT2 ?_;refine cBM j1 (λ_ j1=>?_) λ_ j1=>?_
  .exact zef j1 hT1
  obtain⟨x2,g3,j1⟩:=bsM j1;obtain⟨x4,g5,j1⟩:=bsM j1;refine sXM (anM (ixM g3) (ixM g5)) ?_;exact zda hT2 ((w64 (v5 * x4)),(w64 (v16+1))) j1
 rintro v5 rfl;refine wTM hT1 ?_;refine cBM h (λ_ h=>?_) λ_ h=>?_
 .exact rHM h
 obtain⟨r7,g8,h⟩:=bsM h;refine sSM ?_;refine fDM (zjL g8) ?_;refine sXM @zaM ?_;obtain⟨u9,g10,h⟩:=bsM h;obtain⟨o12,j12,h⟩:=bsM h;obtain⟨T12,hM12⟩:∃ T:Unit->List LB,T=(λa=>[.cells [(dI p0.net.grain),(fzE false zac p0.net.nodes),(fzE false (eI .i64) p0.zae),(fzE false (eI .u64) p0.sets),(fzE false (eI .i64) p0.order)],.cells [(dI p1.zaC),(fzE false (eI .i64) p1.parents),(fzE false (eL (eI .i64)) p1.rows)],.cells [(dB false)]]):=⟨_,rfl⟩;refine EvL.zgK (S':=⟨66,[(2,(.ptr 0 0)),(3,(.ptr 1 0)),(4,(.ptr 2 0)),(34,(.clo 129 [] [(.fptr false (zac.c false r7))]))],T12 ()⟩) (by rw[hM12]; exact wAM) ?_;refine EvL.zfS (n0:=3) (ziG r7 g10) rfl (bm:=.block 3 (.seq (.reg false false [⟨some 37,.fld 0 (.s 2),none⟩,⟨some 38,.fld 0 (.s 37),none⟩,⟨some 39,.load none (.s 38),none⟩,⟨some 10,.mov (.s 39),none⟩]) (.seq (.seq (.reg false false [⟨some 40,.mov (.s 9),none⟩,⟨some 41,.len (.s 40),none⟩,⟨some 42,.mov (.c (.int .i64 0)),none⟩]) (.scope (.block 4 (.loop (.seq (.reg false false [⟨some 43,.bin .lss (.s 42) (.s 41),none⟩]) (.seq (.cond (.s 43) (.skip) (.exit 4)) (.seq (.block 5 (.seq (.reg false false [⟨some 44,.idxS 1 (.s 40) (.s 42),none⟩,⟨some 45,.load none (.s 44),none⟩,⟨some 12,.mov (.s 45),none⟩]) (.seq (.seq (.scope (.reg false false [⟨some 46,.mov (.s 12),none⟩,⟨some 47,.bin .lss (.s 46) (.c (.int .i64 0)),none⟩,⟨some 48,.mov (.s 47),none⟩,⟨some 49,.mov (.s 12),some (48,false)⟩,⟨some 50,.mov (.s 10),some (48,false)⟩,⟨some 51,.bin .gtr (.s 49) (.s 50),some (48,false)⟩,⟨some 52,.pick (.s 48) (.c (.bool true)) (.s 51),none⟩])) (.cond (.s 52) (.seq (.reg false false [⟨none,.store 1 (.s 4) (.c (.bool false)),none⟩]) (.ret)) (.skip))) (.reg false false [⟨some 53,.mov (.s 10),none⟩,⟨some 54,.mov (.s 12),none⟩,⟨some 55,.bin .sub (.s 53) (.s 54),none⟩,⟨some 10,.mov (.s 55),none⟩])))) (.reg false false [⟨some 56,.bin .add (.s 42) (.c (.int .i64 1)),none⟩,⟨some 42,.mov (.s 56),none⟩])))))))) (.seq (.scope (.reg false false [⟨some 57,.mov (.s 9),none⟩,⟨some 58,.len (.s 57),none⟩,⟨some 59,.fld 0 (.s 3),none⟩,⟨some 60,.load none (.s 59),none⟩,⟨some 61,.bin .neq (.s 58) (.s 60),none⟩,⟨some 62,.mov (.s 61),none⟩,⟨some 63,.mov (.s 10),some (62,false)⟩,⟨some 64,.bin .neq (.s 63) (.c (.int .i64 0)),some (62,false)⟩,⟨some 65,.pick (.s 62) (.c (.bool true)) (.s 64),none⟩])) (.cond (.s 65) (.seq (.reg false false [⟨none,.store 1 (.s 4) (.c (.bool false)),none⟩]) (.ret)) (.skip)))))) rfl T12 (λi a=>zaU p0 p1 ((zuk r7.rows).drop i)=some o12) (λx L1=>match x with | .normal=>∃ a,o12=.go a/\L1=T12 a | .ret=>L1.length=3/\zc1 (3+1) L1/\(zkj [.cell 4 none] ((dB r))) .ret ⟨66,[(2,(.ptr 0 0)),(3,(.ptr 1 0)),(4,(.ptr 2 0)),(34,(.clo 129 [] [(.fptr false (zac.c false r7))]))],L1 ++ [.lost]⟩| _=>False) () ?_ (qaz _) ?_ ?_ ?_ (λd L1 hx=>hx.elim) ?_ ?_ ?_ ?_ ?_ ?_
 .intro a; rw[hM12]; rfl
 .exact⟨(qae rfl),(qae rfl),(qae rfl),⟨qdv,⟨qdv,qdv⟩⟩,qdv⟩
 .intro a; rw[hM12]; exact⟨⟨qdv,qdv,qdv,qdv,qdv,qdv⟩,⟨qdv,qdv,qdv,qdv⟩,⟨qdv,qdv⟩,qdv⟩
 .intro x L1 hx;cases x with
  | normal=>obtain⟨a,_,rfl⟩:=hx; exact⟨by rw[hM12]; rfl,by rw[hM12]; exact⟨⟨qdv,qdv,qdv,qdv,qdv,qdv⟩,⟨qdv,qdv,qdv,qdv⟩,⟨qdv,qdv⟩,qdv⟩⟩
  | ret=>exact⟨hx.1,hx.2.1⟩
  | exit id=>exact hx.elim
  | panic d=>exact hx.elim
 .exact j12
 .rintro i ⟨⟩ y11 args G lpF hy hi12 ⟨rfl,rfl⟩ hkin;rw[zfv hy]at hi12;simp only[zaU]at hi12;refine⟨_,_,rfl,rfl,?_⟩;rw[congrFun hM12 ()];refine zag ?_;refine sXM @zaM ?_;obtain⟨o16,j16,hi12⟩:=bsM hi12;obtain⟨T16,hT16⟩:=mkT λa:Int=>⟨66,[(3,(.ptr 1 0)),(4,(.ptr 2 0)),(9,(fzE false (eI .i64) y11.2)),(10,(dI a))],[.cells [(dI p0.net.grain),(fzE false zac p0.net.nodes),(fzE false (eI .i64) p0.zae),(fzE false (eI .u64) p0.sets),(fzE false (eI .i64) p0.order)],.cells [(dI p1.zaC),(fzE false (eI .i64) p1.parents),(fzE false (eL (eI .i64)) p1.rows)],.cells [(dB false)],lpF]⟩
  refine EvL.jn T16 (λa=>o16=.go a) ?_ ?_
  .refine wSM ?_;obtain⟨T19,hT19⟩:=mkT λa:(Int×Int)=>⟨66,[(3,(.ptr 1 0)),(4,(.ptr 2 0)),(9,(fzE false (eI .i64) y11.2)),(10,(dI a.1)),(40,(fzE false (eI .i64) y11.2)),(41,(dI (y11.2.length:Int))),(42,(dI a.2))],[.cells [(dI p0.net.grain),(fzE false zac p0.net.nodes),(fzE false (eI .i64) p0.zae),(fzE false (eI .u64) p0.sets),(fzE false (eI .i64) p0.order)],.cells [(dI p1.zaC),(fzE false (eI .i64) p1.parents),(fzE false (eL (eI .i64)) p1.rows)],.cells [(dB false)],lpF]⟩
   refine rdM hT19 (λn a=>zbb y11 n a.1 a.2=some o16) (p0.net.grain,0) j16 ?_;rintro n ⟨v10,v42⟩ j16;simp only[zbb]at j16;refine wTM hT19 ?_;refine cBM j16 (λ_ j16=>?_) λ_ j16=>?_
   .exact zsg j16 hT16
   obtain⟨x13,g14,j16⟩:=bsM j16;refine sXM (ixM g14) ?_;obtain⟨o20,j20,j16⟩:=bsM j16;obtain⟨T20,hT20⟩:=zey hT19 λa:Bool=>uDM (T19 (v10,v42)) [] [(12,(dI x13)),(52,(dB a))] [] []
   refine EvL.jn T20 _ (bJM j20 hT20) ?_;rintro v52 rfl;refine wTM hT20 ?_;refine cBM j16 (λ_ j16=>?_) λ_ j16=>?_
   .exact zda hT19 ((w64 (v10 - x13)),(w64 (v42+1))) j16
   obtain rfl:=qaj j16;obtain rfl:=qaj hi12;obtain rfl:=qaj h;exact⟨[.cells [(dI p0.net.grain),(fzE false zac p0.net.nodes),(fzE false (eI .i64) p0.zae),(fzE false (eI .u64) p0.sets),(fzE false (eI .i64) p0.order)],.cells [(dI p1.zaC),(fzE false (eI .i64) p1.parents),(fzE false (eL (eI .i64)) p1.rows)],.cells [(dB false)]],rfl,wKM,rfl,⟨⟨qdv,qdv,qdv,qdv,qdv,qdv⟩,⟨qdv,qdv,qdv,qdv⟩,⟨qdv,qdv⟩,qdv⟩,zkj.ret rfl (.lit _)⟩
  rintro v10 rfl;dsimp only at hi12;refine wTM hT16 ?_;obtain⟨o21,j21,hi12⟩:=bsM hi12;obtain⟨T21,hT21⟩:=zey hT16 λa:Bool=>uKM (T16 v10) [4] [(65,(dB a))] [] []
  refine EvL.jn T21 _ (bJM j21 hT21) ?_;rintro v65 rfl;refine wTM hT21 ?_;refine cBM hi12 (λ_ hi12=>?_) λ_ hi12=>?_
  .exact⟨T12 (),by rw[hM12]; rfl,by rw[hM12]; exact wKM,(),hi12,rfl⟩
  obtain rfl:=qaj hi12;obtain rfl:=qaj h;exact⟨[.cells [(dI p0.net.grain),(fzE false zac p0.net.nodes),(fzE false (eI .i64) p0.zae),(fzE false (eI .u64) p0.sets),(fzE false (eI .i64) p0.order)],.cells [(dI p1.zaC),(fzE false (eI .i64) p1.parents),(fzE false (eL (eI .i64)) p1.rows)],.cells [(dB false)]],rfl,wKM,rfl,⟨⟨qdv,qdv,qdv,qdv,qdv,qdv⟩,⟨qdv,qdv,qdv,qdv⟩,⟨qdv,qdv⟩,qdv⟩,zkj.ret rfl (.lit _)⟩
 .rintro⟨⟩ hi12;rw[qbq]at hi12;simp only[zaU]at hi12;exact⟨(),(qaj hi12).symm,rfl⟩
 .rintro _ ⟨⟨⟩,rfl,rfl⟩;dsimp only at h;rw[congrFun hM12 ()];refine zag ?_;refine sXM @zaM ?_;exact rHM h
 .intro id L1 hx; exact hx.elim
 intro L1 hx; exact hx.2.2
def zcV(p0:(List Int))(v5:Int)(C1:Nat):Nat->Int->(List Int)->Option (Out3 Unit (Int×(List Int)) ((List Int)×Bool))
 | 0,_,_=>none
 | n+1,v18,l0'=>(
bif (decide (v18<(p0.length:Int)))then(
(zaO p0 v18).bind λx5=>
(((zki .u64 v5 v18).bind λq7=>
bif ((zkX .u64 q7 1)== 0)then(
some (((zDw .u64 x5 v5)== 0),l0'))
else(
some (false,l0')):Option ((Bool×(List Int))))).bind λo=>match o with
|(v33,l0'')=>(
bif v33 then(
(zpa C1 l0'' [v18]).bind λy11=>
(zsN .u64 1 v18).bind λq13=>
some (.brk ((orI .u64 v5 q13),y11)))
else(
zcV p0 v5 C1 n (w64 (v18+1)) l0'')))
else(
some (.go ())))
def zcT(p0:(List Int))(C1:Nat):Nat->Int->(List Int)->Option (Out (List Int) ((List Int)×Bool))
 | 0,_,_=>none
 | n+1,v5,l0=>(
bif (decide (((l0.length:Nat):Int)<(p0.length:Int)))then(
((zcV p0 v5 C1 ((p0.length:Int) - 0+2:Int).toNat 0 l0:Option (Out3 Unit (Int×(List Int)) ((List Int)×Bool)))).bind λo=>match o with
| .go _=>(
some (.ret ([],false)))
| .brk (v5',l0')=>(
zcT p0 C1 n v5' l0')
| .ret r=>some (.ret r))
else(
some (.go l0)))
def zd3(p0:(List Int)):Option ((List Int)×Bool):=
(zA4 8 (p0.length:Int)).bind λC1=>
((zcT p0 C1 ((p0.length:Int) - ((([]:List Int).length:Nat):Int)+2:Int).toNat 0 ([]:List Int):Option (Out (List Int) ((List Int)×Bool)))).bind λo=>match o with
| .go l0=>(
some (l0,true))
| .ret r=>some r
theorem zmR{p0:(List Int)}{r:((List Int)×Bool)}(h:zd3 p0=some r):Lx.Fn mC 88 [(fzE false (eI .u64) p0)] (.tup [(fzE true (eI .i64) r.1),(dB r.2)]):=by
 refine gnO ?_;unfold zd3 at h;refine wSM ?_;refine EvL.scope (zag ?_);obtain⟨C1,g2,h⟩:=bsM h;refine sXM (anM ((zmA g2).1.1) (anM ((zmA g2).1.2) (anM ((zmA g2).2) (anM @qbU (anM @Int.toNat_zero (show List.replicate C1 [(dI 0)]=(room [] C1 0).map ((eI .i64).c true)from zwj g2 0 ((eI .i64).c true))))))) ?_;obtain⟨o84,j84,h⟩:=bsM h;obtain⟨T84,hT84⟩:=mkT λa:(List Int)=>⟨44,[(4,(.sl 0 0 1 a.length (some C1) C1))],[.els 1 ((room a C1 0).map ((eI .i64).c true))]⟩
 refine EvL.jn T84 (λa=>o84=.go a/\a.length<=C1) ?_ ?_
 .refine wSM ?_;obtain⟨T103,hT103⟩:=mkT λa:(Int×(List Int))=>⟨44,[(0,(fzE false (eI .u64) p0)),(4,(.sl 0 0 1 a.2.length (some C1) C1)),(5,(dU a.1))],[.els 1 ((room a.2 C1 0).map ((eI .i64).c true))]⟩
  refine rdM hT103 (λn a=>zcT p0 C1 n a.1 a.2=some o84/\a.2.length<=C1) (0,([]:List Int)) ⟨j84,(qaz _)⟩ ?_;rintro n ⟨v5,l0⟩ ⟨j84,el0⟩;simp only[zcT]at j84;rw[congrFun hT103 (v5,l0)];refine zag ?_;refine sXM (ziV el0 0) ?_;refine cBM j84 (λ_ j84=>?_) λ_ j84=>?_
  .obtain rfl:=qaj j84;exact zda hT84 _ ⟨rfl,el0⟩
  obtain⟨o108,j108,j84⟩:=bsM j84;obtain⟨T108,hT108⟩:=mkT λa:Unit=>⟨44,[],[]⟩
  obtain⟨TB108,hTB108⟩:∃ T:(Int×(List Int))->LSt,T=(λa=>⟨44,[(0,(fzE false (eI .u64) p0)),(4,(.sl 0 0 1 a.2.length (some C1) C1)),(5,(dU a.1))],[.els 1 ((room a.2 C1 0).map ((eI .i64).c true))]⟩):=⟨_,rfl⟩;refine EvL.jn2 (id:=1) T108 (λa=>o108=.go a) TB108 (λa=>o108=.brk a/\a.2.length<=C1) (λid S hx=>by first | (rcases hx with⟨hx | hx,_⟩<;> cases hx)| exact hx.elim) ?_ ?_ ?_
  .refine wSM ?_;obtain⟨T111,hT111⟩:=mkT λa:(Int×(List Int))=>⟨44,[(0,(fzE false (eI .u64) p0)),(4,(.sl 0 0 1 a.2.length (some C1) C1)),(5,(dU v5)),(16,(fzE false (eI .u64) p0)),(17,(dI (p0.length:Int))),(18,(dI a.1))],[.els 1 ((room a.2 C1 0).map ((eI .i64).c true))]⟩
   refine rdM hT111 (λn a=>zcV p0 v5 C1 n a.1 a.2=some o108/\a.2.length<=C1) (0,l0) ⟨j108,el0⟩ ?_;rintro n ⟨v18,l0'⟩ ⟨j108,el0'⟩;simp only[zcV]at j108;refine wTM hT111 ?_;refine cBM j108 (λ_ j108=>?_) λ_ j108=>?_
   .obtain rfl:=qaj j108;exact zda hT108 _ rfl
   obtain⟨x5,g6,j108⟩:=bsM j108;refine sXM (zbo (n:=1) (e:=(eI .u64)) rfl g6) ?_;obtain⟨o112,j112,j108⟩:=bsM j108;obtain⟨T112,hT112⟩:=zey hT111 λa:(Bool×(List Int))=>uDM (T111 (v18,l0')) [4] [(4,(.sl 0 0 1 a.2.length (some C1) C1)),(6,(dI v18)),(33,(dB a.1))] [(0,.els 1 ((room a.2 C1 0).map ((eI .i64).c true)))] []
   refine EvL.jn T112 (λa=>a=o112/\a.2.length<=C1) ?_ ?_
   .refine zag ?_;obtain⟨q7,g8,j112⟩:=bsM j112;refine sXM (anM ((zbw g8).1) ((zbw g8).2)) ?_;refine cBM j112 (λ_ j112=>?_) λ_ j112=>?_
    .obtain rfl:=qaj j112;exact zda hT112 _ ⟨rfl,el0'⟩
    obtain rfl:=qaj j112;exact zda hT112 _ ⟨rfl,el0'⟩
   rintro⟨v33,l0''⟩ ⟨rfl,el0''⟩;dsimp only at j108;refine wTM hT112 ?_;refine cBM j108 (λ_ j108=>?_) λ_ j108=>?_
   .exact zda hT111 ((w64 (v18+1)),l0'') ⟨j108,el0''⟩
   obtain⟨y11,g12,j108⟩:=bsM j108;obtain⟨q13,g14,j108⟩:=bsM j108;refine sXM (anM (ziV el0'' 0) (anM (show l0''.length+1=y11.length from zno g12) (anM (zra g12) (anM (show((room l0'' C1 0).map ((eI .i64).c true)).take l0''.length ++ [[(dI v18)]]++ ((room l0'' C1 0).map ((eI .i64).c true)).drop y11.length=(room y11 C1 0).map ((eI .i64).c true)from ztk g12 0 ((eI .i64).c true)) (anM ((zdd g14).1) ((zdd g14).2)))))) ?_;obtain rfl:=qaj j108;exact zda hTB108 _ ⟨rfl,(zra g12)⟩
  .rintro⟨⟩ rfl;dsimp only at j84;refine wTM hT108 ?_;obtain rfl:=qaj j84;exact rHM h
  rintro⟨v5',l0'⟩ ⟨rfl,el0'⟩;dsimp only at j84;refine wTM hTB108 ?_;exact zda hT103 (v5',l0') ⟨j84,el0'⟩
 rintro l0 ⟨rfl,el0⟩;dsimp only at h;refine wTM hT84 ?_;obtain rfl:=qaj h;exact zkj.ret rfl (Snp.zA8 (.cons (zwK (e:=(eI .i64)) (t:=true) (z:=0) rfl rfl el0 (λ_=>rfl)) (.cons (.lit _) .nil)))
def zdh(p0:S_api_Net):Nat->Int->Int->(List Int)->Option (Out (Int×(List Int)) (S_net_network×Int))
 | 0,_,_,_=>none
 | n+1,v5,v50,l2=>(
bif (decide (v50<(p0.nodes.length:Int)))then(
(zaO p0.nodes v50).bind λx8=>
((bif (decide (x8.zaC<1))then(
some true)
else(
some (decide (4<x8.zaC))):Option Bool)).bind λv62=>
bif v62 then(
some (.ret ((S_net_network.mk (S_api_Net.mk 0 []) [] [] []),50)))
else(
(zaO l2 v50).bind λx12=>
(ze5 l2 v50 x8.zaC).bind λy14=>
zdh p0 n (w64 (v5 * x8.zaC)) (w64 (v50+1)) y14))
else(
some (.go (v5,l2))))
def zdU(x18:S_api_Node)(p0:S_api_Net)(v82:Int):Nat->Int->Int->(List Int)->Option (Out (List Int) (S_net_network×Int))
 | 0,_,_,_=>none
 | n+1,v10,v90,l3'=>(
bif (decide (v90<(x18.parents.length:Int)))then(
(zaO x18.parents v90).bind λx21=>
((bif (decide (x21<=v10))then(
some true)
else(
bif (decide ((p0.nodes.length:Int)<=x21))then(
some true)
else(
some (x21 == v82))):Option Bool)).bind λv109=>
bif v109 then(
some (.ret ((S_net_network.mk (S_api_Net.mk 0 []) [] [] []),50)))
else(
(zaO l3' v82).bind λx26=>
(zsN .u64 1 x21).bind λq28=>
(ze5 l3' v82 (orI .u64 x26 q28)).bind λy30=>
zdU x18 p0 v82 n x21 (w64 (v90+1)) y30))
else(
some (.go l3')))
def zdf(p0:S_api_Net)(l2:(List Int)):Nat->Int->(List Int)->Option (Out (List Int) (S_net_network×Int))
 | 0,_,_=>none
 | n+1,v82,l3=>(
bif (decide (v82<(p0.nodes.length:Int)))then(
(zaO p0.nodes v82).bind λx18=>
((zdU x18 p0 v82 ((x18.parents.length:Int) - 0+2:Int).toNat (-1) 0 l3:Option (Out (List Int) (S_net_network×Int)))).bind λo=>match o with
| .go l3'=>(
(zbC (S_net_network.mk p0 l2 l3' []) x18).bind λr32=>
bif r32 then(
zdf p0 l2 n (w64 (v82+1)) l3')
else(
some (.ret ((S_net_network.mk (S_api_Net.mk 0 []) [] [] []),50))))
| .ret r=>some (.ret r))
else(
some (.go l3)))
def zdJ(p0:S_api_Net):Option (S_net_network×Int):=
((bif (decide (p0.grain<1))then(
some true)
else(
bif (decide (60<p0.grain))then(
some true)
else(
bif (decide ((p0.nodes.length:Int)<1))then(
some true)
else(
some (decide (8<(p0.nodes.length:Int)))))):Option Bool)).bind λv34=>
bif v34 then(
some ((S_net_network.mk (S_api_Net.mk 0 []) [] [] []),50))
else(
(zeh 8 (p0.nodes.length:Int) 0).bind λy5=>
((zdh p0 ((p0.nodes.length:Int) - 0+2:Int).toNat 1 0 y5:Option (Out (Int×(List Int)) (S_net_network×Int)))).bind λo=>match o with
| .go (v5,l2)=>(
bif (decide (1024<v5))then(
some ((S_net_network.mk (S_api_Net.mk 0 []) [] [] []),50))
else(
((zdf p0 l2 ((p0.nodes.length:Int) - 0+2:Int).toNat 0 y5:Option (Out (List Int) (S_net_network×Int)))).bind λo=>match o with
| .go l3=>(
(zd3 l3).bind λr35=>
bif r35.2 then(
some ((S_net_network.mk p0 l2 l3 r35.1),0))
else(
some ((S_net_network.mk (S_api_Net.mk 0 []) [] [] []),50)))
| .ret r=>some r))
| .ret r=>some r)
variable{p0:S_api_Net}
theorem zgU{r:(S_net_network×Int)}(h:zdJ p0=some r):Lx.FnA mC 59 [(.agg [(dI p0.grain),(fzE false zac p0.nodes)])] (.tup [(.agg [(dI r.1.net.grain),(fzE false zac r.1.net.nodes),(fzE false (eI .i64) r.1.zae),(fzE false (eI .u64) r.1.sets),(fzE false (eI .i64) r.1.order)]),(dI r.2)]):=by
 refine zzO ?_;unfold zdJ at h;refine wSM ?_;obtain⟨o1,j1,h⟩:=bsM h;obtain⟨T1,hT1⟩:=mkT λa:Bool=>⟨140,[(1,(.ptr 0 0)),(2,(.ptr 1 0)),(34,(dB a))],[.cells [(dI p0.grain),(fzE false zac p0.nodes)],.cells [(dI 0),zbU,zbU,zbU,zbU]]⟩
 refine EvL.jn T1 _ (bJM j1 hT1) ?_;rintro v34 rfl;refine wTM hT1 ?_;refine cBM h (λ_ h=>?_) λ_ h=>?_
 .obtain⟨y5,g6,h⟩:=bsM h;refine sXM (anM ((zav g6).1.1) (anM ((zav g6).1.2) (anM @qbU (anM (miM g6) (muM g6))))) ?_;obtain⟨o5,j5,h⟩:=bsM h;obtain⟨T5,hT5⟩:=zey hT1 λa:(Int×(List Int))=>uKM (T1 v34) [2] [(4,(.ptr 4 0)),(5,(dI a.1))] [(0,.gone)] [.els 1 (a.2.map ((eI .i64).c true)),.els 1 (y5.map ((eI .u64).c true)),.cells [(dI p0.grain),(fzE false zac p0.nodes),(.sl 2 0 1 (Int.toNat (p0.nodes.length:Int)) (some (Int.toNat (p0.nodes.length:Int))) (Int.toNat (p0.nodes.length:Int))),(.sl 3 0 1 (Int.toNat (p0.nodes.length:Int)) (some (Int.toNat (p0.nodes.length:Int))) (Int.toNat (p0.nodes.length:Int))),zbU]]
  refine EvL.jn T5 (λa=>o5=.go a/\a.2.length=(Int.toNat (p0.nodes.length:Int))) ?_ ?_
  .refine wSM ?_;obtain⟨T8,hT8⟩:=zey hT1 λa:(Int×Int×(List Int))=>uKM (T1 v34) [2] [(4,(.ptr 4 0)),(5,(dI a.1)),(48,(fzE false zac p0.nodes)),(49,(dI (p0.nodes.length:Int))),(50,(dI a.2.1))] [(0,.gone)] [.els 1 (a.2.2.map ((eI .i64).c true)),.els 1 (y5.map ((eI .u64).c true)),.cells [(dI p0.grain),(fzE false zac p0.nodes),(.sl 2 0 1 (Int.toNat (p0.nodes.length:Int)) (some (Int.toNat (p0.nodes.length:Int))) (Int.toNat (p0.nodes.length:Int))),(.sl 3 0 1 (Int.toNat (p0.nodes.length:Int)) (some (Int.toNat (p0.nodes.length:Int))) (Int.toNat (p0.nodes.length:Int))),zbU]]
   refine rdM hT8 (λn a=>zdh p0 n a.1 a.2.1 a.2.2=some o5/\a.2.2.length=(Int.toNat (p0.nodes.length:Int))) (1,0,y5) ⟨j5,zbp g6⟩ ?_;rintro n ⟨v5,v50,l2⟩ ⟨j5,el2⟩;simp only[zdh]at j5;refine wTM hT8 ?_;refine cBM j5 (λ_ j5=>?_) λ_ j5=>?_
   .obtain rfl:=qaj j5;exact zda hT5 _ ⟨rfl,el2⟩
   obtain⟨x8,g9,j5⟩:=bsM j5;refine sXM (anM @zaM (zbo (n:=3) (e:=zac) rfl g9)) ?_;obtain⟨o9,j9,j5⟩:=bsM j5;obtain⟨T9,hT9⟩:=zey hT8 λa:Bool=>uDM (T8 (v5,v50,l2)) [] [(6,(dI v50)),(7,(.ptr 5 0)),(62,(dB a))] [] [.cells [(dI x8.zaC),(fzE false (eI .i64) x8.parents),(fzE false (eL (eI .i64)) x8.rows)]]
   refine EvL.jn T9 _ (bJM j9 hT9) ?_;rintro v62 rfl;refine wTM hT9 ?_;refine cBM j5 (λ_ j5=>?_) λ_ j5=>?_
   .obtain⟨x12,g13,j5⟩:=bsM j5;obtain⟨y14,g15,j5⟩:=bsM j5;refine sXM (anM el2 (anM (za4 g13) (anM (ltM el2 g13) (anM (giM g13) (siM g15))))) ?_;exact zda hT8 ((w64 (v5 * x8.zaC)),(w64 (v50+1)),y14) ⟨j5,(zaZ g15).trans el2⟩
   obtain rfl:=qaj j5;exact rHM h
  rintro⟨v5,l2⟩ ⟨rfl,el2⟩;dsimp only at h;refine wTM hT5 ?_;refine cBM h (λ_ h=>?_) λ_ h=>?_
  .obtain⟨o34,j34,h⟩:=bsM h;obtain⟨T34,hT34⟩:=zey hT5 λa:(List Int)=>uDM (T5 (v5,l2)) [5] [] [(3,.els 1 (a.map ((eI .u64).c true)))] []
   refine EvL.jn T34 (λa=>o34=.go a/\a.length=(Int.toNat (p0.nodes.length:Int))) ?_ ?_
   .refine wSM ?_;obtain⟨T51,hT51⟩:=zey hT5 λa:(Int×(List Int))=>uDM (T5 (v5,l2)) [5] [(80,(fzE false zac p0.nodes)),(81,(dI (p0.nodes.length:Int))),(82,(dI a.1))] [(3,.els 1 (a.2.map ((eI .u64).c true)))] []
    refine rdM hT51 (λn a=>zdf p0 l2 n a.1 a.2=some o34/\a.2.length=(Int.toNat (p0.nodes.length:Int))) (0,y5) ⟨j34,zbp g6⟩ ?_;rintro n ⟨v82,l3⟩ ⟨j34,el3⟩;simp only[zdf]at j34;refine wTM hT51 ?_;refine cBM j34 (λ_ j34=>?_) λ_ j34=>?_
    .obtain rfl:=qaj j34;exact zda hT34 _ ⟨rfl,el3⟩
    obtain⟨x18,g19,j34⟩:=bsM j34;refine sXM (anM @zaM (zbo (n:=3) (e:=zac) rfl g19)) ?_;obtain⟨o55,j55,j34⟩:=bsM j34;obtain⟨T55,hT55⟩:=zey hT51 λa:(List Int)=>uDM (T51 (v82,l3)) [] [(9,(.ptr 5 0))] [(3,.els 1 (a.map ((eI .u64).c true)))] [.cells [(dI x18.zaC),(fzE false (eI .i64) x18.parents),(fzE false (eL (eI .i64)) x18.rows)]]
    refine EvL.jn T55 (λa=>o55=.go a/\a.length=(Int.toNat (p0.nodes.length:Int))) ?_ ?_
    .refine wSM ?_;obtain⟨T58,hT58⟩:=zey hT51 λa:(Int×Int×(List Int))=>uDM (T51 (v82,l3)) [] [(8,(dI v82)),(9,(.ptr 5 0)),(10,(dI a.1)),(88,(fzE false (eI .i64) x18.parents)),(89,(dI (x18.parents.length:Int))),(90,(dI a.2.1))] [(3,.els 1 (a.2.2.map ((eI .u64).c true)))] [.cells [(dI x18.zaC),(fzE false (eI .i64) x18.parents),(fzE false (eL (eI .i64)) x18.rows)]]
     refine rdM hT58 (λn a=>zdU x18 p0 v82 n a.1 a.2.1 a.2.2=some o55/\a.2.2.length=(Int.toNat (p0.nodes.length:Int))) ((-1),0,l3) ⟨j55,el3⟩ ?_;rintro n ⟨v10,v90,l3'⟩ ⟨j55,el3'⟩;simp only[zdU]at j55;refine wTM hT58 ?_;refine cBM j55 (λ_ j55=>?_) λ_ j55=>?_
     .obtain rfl:=qaj j55;exact zda hT55 _ ⟨rfl,el3'⟩
     obtain⟨x21,g22,j55⟩:=bsM j55;refine sXM (ixM g22) ?_;obtain⟨o59,j59,j55⟩:=bsM j55;obtain⟨T59,hT59⟩:=zey hT58 λa:Bool=>uDM (T58 (v10,v90,l3')) [10] [(12,(dI x21)),(109,(dB a))] [] []
     refine EvL.jn T59 _ (bJM j59 hT59) ?_;rintro v109 rfl;refine wTM hT59 ?_;refine cBM j55 (λ_ j55=>?_) λ_ j55=>?_
     .obtain⟨x26,g27,j55⟩:=bsM j55;obtain⟨q28,g29,j55⟩:=bsM j55;obtain⟨y30,g31,j55⟩:=bsM j55;refine sXM (anM el3' (anM (za4 g27) (anM (ltM el3' g27) (anM (guM g27) (anM ((zdd g29).1) (anM ((zdd g29).2) (suM g31))))))) ?_;exact zda hT58 (x21,(w64 (v90+1)),y30) ⟨j55,(zaZ g31).trans el3'⟩
     obtain rfl:=qaj j55;obtain rfl:=qaj j34;exact rHM h
    rintro l3' ⟨rfl,el3'⟩;dsimp only at j34;refine wTM hT55 ?_;obtain⟨r32,g33,j34⟩:=bsM j34;refine sSM ?_;refine fCM (zfV g33) ?_;refine cBM j34 (λ_ j34=>?_) λ_ j34=>?_
    .obtain rfl:=qaj j34;exact rHM h
    exact zda hT51 ((w64 (v82+1)),l3') ⟨j34,el3'⟩
   rintro l3 ⟨rfl,el3⟩;dsimp only at h;refine wTM hT34 ?_;obtain⟨r35,g36,h⟩:=bsM h;refine sSM ?_;refine fCM (zmR g36) ?_;refine cBM h (λ_ h=>?_) λ_ h=>?_
   .exact rHM h
   exact rHM h
  exact rHM h
 exact rHM h
def zch(r1:(S_factor_table×Int))(r4:Int)(p2:Int)(q21:Int):List (Int×Int×(List Int))->(List Int)->Option (List Int)
 | [],l5=>some l5
 | y31 :: ys,l5=>(
(zaO r1.1.steps r4).bind λx32=>
(zaO r1.1.factor.w (w64 (y31.2.1+(w64 (p2 * x32))))).bind λx34=>
(zaO l5 y31.1).bind λx36=>
(ze5 l5 y31.1 x34).bind λy38=>
zch r1 r4 p2 q21 ys y38)
def zcA(p0:S_api_Factor)(p1:Int)(p2:Int):Option (S_api_Factor×Int):=
(zbF p0).bind λr1=>
bif (r1.2 == 0)then(
(zap r1.1 p1).bind λr4=>
bif (decide (r4<0))then(
some ((S_api_Factor.mk [] [] []),4))
else(
((bif (decide (p2<0))then(
some true)
else(
(zaO r1.1.factor.zae r4).bind λx8=>
some (decide (x8<=p2))):Option Bool)).bind λv42=>
bif v42 then(
some ((S_api_Factor.mk [] [] []),2))
else(
(zd5 8 r1.1.factor.vars).bind λy11=>
(zvx y11 r4 (w64 (r4+1))).bind λy13=>
(zd5 8 r1.1.factor.zae).bind λy15=>
(zvx y15 r4 (w64 (r4+1))).bind λy17=>
(zaO r1.1.factor.zae r4).bind λx19=>
(zrD .i64 (r1.1.factor.w.length:Int) x19).bind λq21=>
(zeh 8 q21 0).bind λy23=>
(za1 r1.1 y13).bind λr25=>
(zbO y17 r25).bind λr27=>
(zyS r27.1 r27.2).bind λu29=>
((zch r1 r4 p2 q21 u29 y23:Option (List Int))).bind λl5=>
some ((S_api_Factor.mk y13 y17 l5),0))))
else(
some ((S_api_Factor.mk [] [] []),r1.2))
variable{p2:Int}
theorem zmn{p0:S_api_Factor}{p1:Int}{r:(S_api_Factor×Int)}(h:zcA p0 p1 p2=some r):Lx.Fn mC 77 [(.agg [(fzE false (eI .i64) p0.vars),(fzE false (eI .i64) p0.zae),(fzE false (eI .i64) p0.w)]),(dI p1),(dI p2)] (.tup [(.agg [(fzE true (eI .i64) r.1.vars),(fzE true (eI .i64) r.1.zae),(fzE true (eI .i64) r.1.w)]),(dI r.2)]):=by
 refine gnO ?_;unfold zcA at h;refine zag ?_;obtain⟨r1,g2,h⟩:=bsM h;refine sSM ?_;refine fDM (zdZ g2) ?_;refine cBM h (λ_ h=>?_) λ_ h=>?_
 .exact rHM h
 obtain⟨r4,g5,h⟩:=bsM h;refine sSM ?_;refine fCM (zaJ g5) ?_;cases c6:(decide (r4<0))
 .rw[c6,qdx]at h;refine sSM ?_;obtain⟨o1,j1,h⟩:=bsM h;obtain⟨T1,hT1⟩:=mkT λa:Bool=>⟨100,[(5,(.ptr 1 0)),(6,(.ptr 2 0)),(8,(.ptr 3 0)),(10,(.ptr 4 0)),(42,(dB a))],[.gone,.cells [(dI p2)],.cells [zbU,zbU,zbU],.cells [(fzE false (eI .i64) r1.1.factor.vars),(fzE false (eI .i64) r1.1.factor.zae),(fzE false (eI .i64) r1.1.factor.w),(fzE false (eI .i64) r1.1.steps)],.cells [(dI r4)]]⟩
  refine EvL.jn T1 (λa=>a=o1) ?_ ?_
  .refine wSM ?_;refine cBM j1 (λ_ j1=>?_) λ_ j1=>?_
   .obtain⟨x8,g9,j1⟩:=bsM j1;refine sXM (ixM g9) ?_;exact zef j1 hT1
   exact zef j1 hT1
  rintro v42 rfl;refine wTM hT1 ?_;cases c10:v42
  .rw[c10,qdx]at h;obtain⟨y11,g12,h⟩:=bsM h;refine sSM ?_;refine EvL.clone (t:=false) (zs:=r1.1.factor.vars) g12 rfl rfl ?_;obtain⟨y13,g14,h⟩:=bsM h;refine sSM ?_;refine EvL.delete (zs:=y11) (t:=true) g14 rfl rfl rfl rfl rfl rfl ?_;refine EvL.zgK (S':=⟨100,[(5,(.ptr 1 0)),(6,(.ptr 2 0)),(8,(.ptr 3 0)),(10,(.ptr 4 0)),(51,(fzE true (eI .i64) y13))],[.gone,.cells [(dI p2)],.cells [zbU,zbU,zbU],.cells [(fzE false (eI .i64) r1.1.factor.vars),(fzE false (eI .i64) r1.1.factor.zae),(fzE false (eI .i64) r1.1.factor.w),(fzE false (eI .i64) r1.1.steps)],.cells [(dI r4)]]⟩) (za8.m0 [.d,.k,.k,.k,.k,.f] rfl (msq (msq (msq (msq (mf rfl (zlK (xs:=y11) (ys:=y13) (t:=true) (zpz g14) rfl rfl rfl (λ_=>rfl)) trivial))))) ⟨rfl,⟨MB.cs ⟨qdv,qdv⟩,⟨MB.cs ⟨qdv,qdv,qdv,qdv⟩,⟨MB.cs ⟨qdv,qdv,qdv,qdv,qdv⟩,⟨MB.cs ⟨qdv,qdv⟩,qdv⟩⟩⟩⟩⟩) (zag ?_);obtain⟨y15,g16,h⟩:=bsM h;refine sSM ?_;refine EvL.clone (t:=false) (zs:=r1.1.factor.zae) g16 rfl rfl ?_;obtain⟨y17,g18,h⟩:=bsM h;refine sSM ?_;refine EvL.delete (zs:=y15) (t:=true) g18 rfl rfl rfl rfl rfl rfl ?_;refine EvL.zgK (S':=⟨100,[(5,(.ptr 1 0)),(6,(.ptr 2 0)),(8,(.ptr 3 0)),(10,(.ptr 4 0)),(11,(fzE true (eI .i64) y13)),(59,(fzE true (eI .i64) y17))],[.gone,.cells [(dI p2)],.cells [zbU,zbU,zbU],.cells [(fzE false (eI .i64) r1.1.factor.vars),(fzE false (eI .i64) r1.1.factor.zae),(fzE false (eI .i64) r1.1.factor.w),(fzE false (eI .i64) r1.1.steps)],.cells [(dI r4)]]⟩) (za8.m0 [.d,.k,.k,.k,.k,.f] rfl (msq (msq (msq (msq (msq (mf rfl (zlK (xs:=y15) (ys:=y17) (t:=true) (zpz g18) rfl rfl rfl (λ_=>rfl)) trivial)))))) ⟨rfl,⟨MB.cs ⟨qdv,qdv⟩,⟨MB.cs ⟨qdv,qdv,qdv,qdv⟩,⟨MB.cs ⟨qdv,qdv,qdv,qdv,qdv⟩,⟨MB.cs ⟨qdv,qdv⟩,qdv⟩⟩⟩⟩⟩) (zag ?_);obtain⟨x19,g20,h⟩:=bsM h;obtain⟨q21,g22,h⟩:=bsM h;obtain⟨y23,g24,h⟩:=bsM h;obtain⟨r25,g26,h⟩:=bsM h;refine sXM (anM (ixM g20) (anM (zl1 g22) (anM (zpQ g22) (anM ((zav g24).1.1) (anM ((zav g24).1.2) (anM @qbU (miM g24))))))) ?_;refine fCM (zcC g26) ?_;obtain⟨r27,g28,h⟩:=bsM h;refine sSM ?_;refine fDM (zcZ g28) ?_;obtain⟨u29,g30,h⟩:=bsM h;obtain⟨o2,j2,h⟩:=bsM h;obtain⟨T2,hM2⟩:∃ T:(List Int)->List LB,T=(λa=>[.gone,.cells [(dI p2)],.cells [zbU,zbU,zbU],.cells [(fzE false (eI .i64) r1.1.factor.vars),(fzE false (eI .i64) r1.1.factor.zae),(fzE false (eI .i64) r1.1.factor.w),(fzE false (eI .i64) r1.1.steps)],.cells [(dI r4)],.els 1 (a.map ((eI .i64).c true)),.cells [(.sl 5 0 1 (Int.toNat q21) (some (Int.toNat q21)) (Int.toNat q21))]]):=⟨_,rfl⟩;refine EvL.zgK (S':=⟨100,[(5,(.ptr 1 0)),(6,(.ptr 2 0)),(8,(.ptr 3 0)),(10,(.ptr 4 0)),(11,(fzE true (eI .i64) y13)),(12,(fzE true (eI .i64) y17)),(13,(.ptr 6 0)),(76,(.clo 125 [] [(.fptr false ((eL (eI .i64)).c false r27.1)),(.fptr false ((eL (eI .i64)).c false r27.2))]))],T2 y23⟩) (by rw[hM2]; exact wm0 [.k,.k,.k,.k,.k,.k,.k] ⟨MB.same trivial,⟨MB.cs ⟨qdv,qdv⟩,⟨MB.cs ⟨qdv,qdv,qdv,qdv⟩,⟨MB.cs ⟨qdv,qdv,qdv,qdv,qdv⟩,⟨MB.cs ⟨qdv,qdv⟩,⟨MB.es (eI .i64) true y23,⟨MB.cs ⟨rfl,qdv⟩,qdv⟩⟩⟩⟩⟩⟩⟩) ?_;refine EvL.zfS (n0:=7) (zcy g30) rfl (bm:=.block 1 (.reg true false [⟨some 79,.load none (.s 13),none⟩,⟨some 80,.mov (.s 14),none⟩,⟨some 81,.fld 0 (.s 8),none⟩,⟨some 82,.fld 2 (.s 81),none⟩,⟨some 83,.load none (.s 82),none⟩,⟨some 84,.mov (.s 15),none⟩,⟨some 85,.load none (.s 5),none⟩,⟨some 86,.fld 3 (.s 8),none⟩,⟨some 87,.load none (.s 86),none⟩,⟨some 88,.load none (.s 10),none⟩,⟨some 89,.idxS 1 (.s 87) (.s 88),none⟩,⟨some 90,.load none (.s 89),none⟩,⟨some 91,.bin .mul (.s 85) (.s 90),none⟩,⟨some 92,.bin .add (.s 84) (.s 91),none⟩,⟨some 93,.idxS 1 (.s 83) (.s 92),none⟩,⟨some 94,.load none (.s 93),none⟩,⟨some 95,.idxS 1 (.s 79) (.s 80),none⟩,⟨none,.store 1 (.s 95) (.s 94),none⟩])) rfl T2 (λi a=>zch r1 r4 p2 q21 (u29.drop i) a=some o2/\a.length=(Int.toNat q21)) (λx L1=>match x with | .normal=>∃ a,o2=a/\a.length=(Int.toNat q21)/\L1=T2 a | .ret=>L1.length=7/\zc1 (7+1) L1/\(zkj [.cell 6 (some 3),.tmp 7] ((.tup [(.agg [(fzE true (eI .i64) r.1.vars),(fzE true (eI .i64) r.1.zae),(fzE true (eI .i64) r.1.w)]),(dI r.2)]))) .ret ⟨100,[(5,(.ptr 1 0)),(6,(.ptr 2 0)),(8,(.ptr 3 0)),(10,(.ptr 4 0)),(11,(fzE true (eI .i64) y13)),(12,(fzE true (eI .i64) y17)),(13,(.ptr 6 0)),(76,(.clo 125 [] [(.fptr false ((eL (eI .i64)).c false r27.1)),(.fptr false ((eL (eI .i64)).c false r27.2))]))],L1 ++ [.lost]⟩| _=>False) y23 ?_ (qaz _) ?_ ?_ ?_ (λd L1 hx=>hx.elim) ?_ ?_ ?_ ?_ ?_ ?_
   .intro a; rw[hM2]; rfl
   .exact⟨(qae rfl),(qae rfl),(qae rfl),(qae rfl),qdv,qdv,(qae rfl),⟨qdv,⟨qdv,qdv,qdv⟩⟩,qdv⟩
   .intro a; rw[hM2]; exact⟨qdv,⟨qdv,qdv⟩,⟨qdv,qdv,qdv,qdv⟩,⟨qdv,qdv,qdv,qdv,qdv⟩,⟨qdv,qdv⟩,(zdC (eI .i64) _ _ _),⟨(qae rfl),qdv⟩,qdv⟩
   .intro x L1 hx;cases x with
    | normal=>obtain⟨a,_,_,rfl⟩:=hx; exact⟨by rw[hM2]; rfl,by rw[hM2]; exact⟨qdv,⟨qdv,qdv⟩,⟨qdv,qdv,qdv,qdv⟩,⟨qdv,qdv,qdv,qdv,qdv⟩,⟨qdv,qdv⟩,(zdC (eI .i64) _ _ _),⟨(qae rfl),qdv⟩,qdv⟩⟩
    | ret=>exact⟨hx.1,hx.2.1⟩
    | exit id=>exact hx.elim
    | panic d=>exact hx.elim
   .exact⟨j2,zbp g24⟩
   .rintro i l5 y31 args G lpF hy ⟨hi2,el5⟩ ⟨rfl,rfl⟩ hkin;rw[zfv hy]at hi2;simp only[zch]at hi2;refine⟨_,_,rfl,rfl,?_⟩;rw[congrFun hM2 l5];refine zag ?_;obtain⟨x32,g33,hi2⟩:=bsM hi2;obtain⟨x34,g35,hi2⟩:=bsM hi2;obtain⟨x36,g37,hi2⟩:=bsM hi2;obtain⟨y38,g39,hi2⟩:=bsM hi2;refine sXM (anM (ixM g33) (anM (ixM g35) (anM el5 (anM (za4 g37) (anM (ltM el5 g37) (anM (giM g37) (siM g39))))))) ?_;exact⟨T2 y38,by rw[hM2]; rfl,by rw[hM2]; exact za8.mK [.k,.k,.k,.k,.k,.k,.k,.k,.k] rfl rfl qdv ⟨MB.same trivial,⟨MB.cs ⟨qdv,qdv⟩,⟨MB.cs ⟨qdv,qdv,qdv,qdv⟩,⟨MB.cs ⟨qdv,qdv,qdv,qdv,qdv⟩,⟨MB.cs ⟨qdv,qdv⟩,⟨MB.es (eI .i64) true y38,⟨MB.cs ⟨rfl,qdv⟩,⟨.same (hkin _ (by decide)),⟨MB.same (zei _ _ _ _),qdv⟩⟩⟩⟩⟩⟩⟩⟩⟩,y38,⟨hi2,(zaZ g39).trans el5⟩,rfl⟩
   .rintro l5 ⟨hi2,el5⟩;rw[qbq]at hi2;simp only[zch]at hi2;exact⟨l5,(qaj hi2).symm,el5,rfl⟩
   .rintro _ ⟨l5,oeq,el5,rfl⟩;have oeq2:=oeq.symm;subst oeq2;rw[congrFun hM2 l5];refine wSM ?_;exact rHM h
   .intro id L1 hx; exact hx.elim
   intro L1 hx; exact hx.2.2
  rw[c10,qdw]at h;refine sSM ?_;exact rHM h
 rw[c6,qdw]at h;refine sSM ?_;exact rHM h
def zcp(r1:(S_net_network×Int)):Nat->Int->(List S_api_Factor)->Option (List S_api_Factor)
 | 0,_,_=>none
 | n+1,v23,l2=>(
bif (decide (v23<(((Int.toNat (r1.1.net.nodes.length:Int)):Nat):Int)))then(
(zbD r1.1 v23).bind λr7=>
(zaO l2 v23).bind λx9=>
(ze5 l2 v23 r7).bind λy11=>
zcp r1 n (w64 (v23+1)) y11)
else(
some l2))
def zdw(p0:S_api_Net):Option ((List S_api_Factor)×Int):=
(zdJ p0).bind λr1=>
bif (r1.2 == 0)then(
(zeh 72 (r1.1.net.nodes.length:Int) (S_api_Factor.mk [] [] [])).bind λy4=>
((zcp r1 ((((Int.toNat (r1.1.net.nodes.length:Int)):Nat):Int) - 0+2:Int).toNat 0 y4:Option (List S_api_Factor))).bind λl2=>
some (l2,0))
else(
some ([],r1.2))
variable{r:((List S_api_Factor)×Int)}
theorem zks(h:zdw p0=some r):Lx.Fn mC 75 [(.agg [(dI p0.grain),(fzE false zac p0.nodes)])] (.tup [(fzE true zaa r.1),(dI r.2)]):=by
 refine gnO ?_;unfold zdw at h;refine zag ?_;obtain⟨r1,g2,h⟩:=bsM h;refine sSM ?_;refine fDM (zgU g2) ?_;refine cBM h (λ_ h=>?_) λ_ h=>?_
 .exact rHM h
 obtain⟨y4,g5,h⟩:=bsM h;try simp only[rnA,Nat.reduceEqDiff,Nat.reduceLT,Nat.reduceAdd,reduceCtorEq,ze0,(zav g5).1.1,(zav g5).1.2,qbU,qb7]
 obtain⟨o1,j1,h⟩:=bsM h;obtain⟨T1,hT1⟩:=mkT λa:(List S_api_Factor)=>⟨34,[(6,(.sl 2 0 3 (Int.toNat (r1.1.net.nodes.length:Int)) (some (Int.toNat (r1.1.net.nodes.length:Int))) (Int.toNat (r1.1.net.nodes.length:Int))))],[.gone,.gone,.els 3 (a.map (zaa.c true))]⟩
 refine EvL.jn T1 (λa=>a=o1/\a.length=(Int.toNat (r1.1.net.nodes.length:Int))) ?_ ?_
 .refine wSM ?_;obtain⟨T2,hT2⟩:=mkT λa:(Int×(List S_api_Factor))=>⟨34,[(4,(.ptr 1 0)),(6,(.sl 2 0 3 (Int.toNat (r1.1.net.nodes.length:Int)) (some (Int.toNat (r1.1.net.nodes.length:Int))) (Int.toNat (r1.1.net.nodes.length:Int)))),(22,(dI (((Int.toNat (r1.1.net.nodes.length:Int)):Nat):Int))),(23,(dI a.1))],[.gone,.cells [(dI r1.1.net.grain),(fzE false zac r1.1.net.nodes),(fzE false (eI .i64) r1.1.zae),(fzE false (eI .u64) r1.1.sets),(fzE false (eI .i64) r1.1.order)],.els 3 (a.2.map (zaa.c true))]⟩
  refine EvL.rounds (α:=(Int×(List S_api_Factor))) T2 (λn a=>zcp r1 n a.1 a.2=some o1/\a.2.length=(Int.toNat (r1.1.net.nodes.length:Int))) ((((Int.toNat (r1.1.net.nodes.length:Int)):Nat):Int) - 0+2:Int).toNat (0,y4) (by rw[hT2]; exact wm0 [.d,.k,.k] ⟨rfl,⟨MB.cs ⟨qdv,qdv,qdv,qdv,qdv,qdv⟩,⟨MB.zDH (zAu (e:=zaa) (t:=true) g5 (.cons (.fr (zjN (eI .i64))) (.cons (.fr (zjN (eI .i64))) (.cons (.fr (zjN (eI .i64))) .nil)))),qdv⟩⟩⟩) ⟨j1,zbp g5⟩ (λ_ h=>nomatch (show(none:Option (List S_api_Factor))=some o1 from h.1)) ?_;rintro n ⟨v23,l2⟩ ⟨j1,el2⟩;simp only[zcp]at j1;refine wTM hT2 ?_;refine cBM j1 (λ_ j1=>?_) λ_ j1=>?_
  .obtain rfl:=qaj j1;exact zda hT1 _ ⟨rfl,el2⟩
  obtain⟨r7,g8,j1⟩:=bsM j1;refine sSM ?_;refine fCM (zgc g8) ?_;obtain⟨x9,g10,j1⟩:=bsM j1;obtain⟨y11,g12,j1⟩:=bsM j1;refine zEZ @zcN el2 (za4 g10) (ltM el2 g10) (zcW g10 (zaa.c true)) (show(l2.map (zaa.c true)).set v23.toNat [(fzE true (eI .i64) r7.vars),(fzE true (eI .i64) r7.zae),(fzE true (eI .i64) r7.w)]=y11.map (zaa.c true)from zeT g12 (zaa.c true)) ?_;exact zda hT2 ((w64 (v23+1)),y11) ⟨j1,(zaZ g12).trans el2⟩
 rintro l2 ⟨rfl,el2⟩;refine wTM hT1 ?_;exact rHM h
def zd7(p0:S_api_Net):Option (Int×Int):=
(zdJ p0).bind λr1=>
bif (r1.2 == 0)then(
(zce r1.1.zae).bind λr4=>
some (r4.1,r4.2))
else(
some (0,r1.2))
theorem zmF{r:(Int×Int)}(h:zd7 p0=some r):Lx.Fn mC 28 [(.agg [(dI p0.grain),(fzE false zac p0.nodes)])] (.tup [(dI r.1),(dI r.2)]):=by
 refine gnO ?_;unfold zd7 at h;refine zag ?_;obtain⟨r1,g2,h⟩:=bsM h;refine sSM ?_;refine fDM (zgU g2) ?_;refine cBM h (λ_ h=>?_) λ_ h=>?_
 .exact rHM h
 obtain⟨r4,g5,h⟩:=bsM h;refine sSM ?_;refine fCM (zfA g5) ?_;exact rHM h
def za0(p1:(List Int))(r1:(S_net_network×Int)):Nat->Int->Option (Out Unit Int)
 | 0,_=>none
 | n+1,v26=>(
bif (decide (v26<(p1.length:Int)))then(
(zaO p1 v26).bind λx6=>
((bif (decide (x6<(-1)))then(
some true)
else(
(zaO r1.1.zae v26).bind λx9=>
some (decide (x9<=x6))):Option Bool)).bind λv41=>
bif v41 then(
some (.ret 2))
else(
za0 p1 r1 n (w64 (v26+1))))
else(
some (.go ())))
def zbs(p0:S_api_Net)(p1:(List Int)):Option Int:=
(zdJ p0).bind λr1=>
bif (r1.2 == 0)then(
bif ((p1.length:Int)==(r1.1.net.nodes.length:Int))then(
((za0 p1 r1 ((p1.length:Int) - 0+2:Int).toNat 0:Option (Out Unit Int))).bind λo=>match o with
| .go _=>(
some 0)
| .ret r=>some r)
else(
some 2))
else(
some r1.2)
theorem zgF{p1:(List Int)}{r:Int}(h:zbs p0 p1=some r):Lx.Fn mC 67 [(.agg [(dI p0.grain),(fzE false zac p0.nodes)]),(fzE false (eI .i64) p1)] (dI r):=by
 refine gnO ?_;unfold zbs at h;refine zag ?_;obtain⟨r1,g2,h⟩:=bsM h;refine sSM ?_;refine fDM (zgU g2) ?_;refine cBM h (λ_ h=>?_) λ_ h=>?_
 .exact rHM h
 refine cBM h (λ_ h=>?_) λ_ h=>?_
 .exact rHM h
 obtain⟨o4,j4,h⟩:=bsM h;obtain⟨T4,hT4⟩:=mkT λa:Unit=>⟨43,[],[]⟩
 refine EvL.jn T4 (λa=>o4=.go a) ?_ ?_
 .refine wSM ?_;obtain⟨T7,hT7⟩:=mkT λa:Int=>⟨43,[(5,(.ptr 1 0)),(24,(fzE false (eI .i64) p1)),(25,(dI (p1.length:Int))),(26,(dI a))],[.gone,.cells [(dI r1.1.net.grain),(fzE false zac r1.1.net.nodes),(fzE false (eI .i64) r1.1.zae),(fzE false (eI .u64) r1.1.sets),(fzE false (eI .i64) r1.1.order)]]⟩
  refine rdM hT7 (λn a=>za0 p1 r1 n a=some o4) 0 j4 ?_;rintro n v26 j4;simp only[za0]at j4;refine wTM hT7 ?_;refine cBM j4 (λ_ j4=>?_) λ_ j4=>?_
  .exact zsg j4 hT4
  obtain⟨x6,g7,j4⟩:=bsM j4;refine sXM (ixM g7) ?_;obtain⟨o8,j8,j4⟩:=bsM j4;obtain⟨T8,hT8⟩:=zey hT7 λa:Bool=>uDM (T7 v26) [] [(41,(dB a))] [] []
  refine EvL.jn T8 (λa=>a=o8) ?_ ?_
  .refine wSM ?_;refine cBM j8 (λ_ j8=>?_) λ_ j8=>?_
   .obtain⟨x9,g10,j8⟩:=bsM j8;refine sXM (ixM g10) ?_;exact zef j8 hT8
   exact zef j8 hT8
  rintro v41 rfl;refine wTM hT8 ?_;refine cBM j4 (λ_ j4=>?_) λ_ j4=>?_
  .exact zda hT7 (w64 (v26+1)) j4
  obtain rfl:=qaj j4;exact rHM h
 rintro⟨⟩ rfl;dsimp only at h;refine wTM hT4 ?_;exact rHM h
def zat(p0:S_eliminate_query):Nat->Int->(List Int)->(List Int)->(List Int)->Option (Out ((List Int)×(List Int)×(List Int)) ((List S_api_Factor)×Int))
 | 0,_,_,_,_=>none
 | n+1,v37,b2_0,b2_1,b2_2=>(
bif (decide (v37<(p0.known.length:Int)))then(
(((zaO p0.known v37).bind λx11=>
((bif (decide (x11<0))then(
some true)
else(
(zbK (S_api_Factor.mk b2_0 b2_1 b2_2) v37).bind λr14=>
some (!r14)):Option Bool)).bind λv49=>
bif v49 then(
some (.go (b2_0,b2_1,b2_2)))
else(
(zcA (S_api_Factor.mk b2_0 b2_1 b2_2) v37 x11).bind λr17=>
bif (r17.2 == 0)then(
some (.go (r17.1.vars,r17.1.zae,r17.1.w)))
else(
some (.ret ([],r17.2)))):Option (Out ((List Int)×(List Int)×(List Int)) ((List S_api_Factor)×Int)))).bind λo=>match o with
| .go (b2_0',b2_1',b2_2')=>(
zat p0 n (w64 (v37+1)) b2_0' b2_1' b2_2')
| .ret r=>some (.ret r))
else(
some (.go (b2_0,b2_1,b2_2))))
def zaz(r1:((List S_api_Factor)×Int))(p1:Int)(p0:S_eliminate_query):Nat->Int->(List S_api_Factor)->Option (Out (List S_api_Factor) ((List S_api_Factor)×Int))
 | 0,_,_=>none
 | n+1,v24,l1=>(
bif (decide (v24<(r1.1.length:Int)))then(
(((zaO r1.1 v24).bind λx5=>
(zki .u64 p1 v24).bind λq7=>
bif ((zkX .u64 q7 1)== 0)then(
some (.go l1))
else(
((zat p0 ((p0.known.length:Int) - 0+2:Int).toNat 0 x5.vars x5.zae x5.w:Option (Out ((List Int)×(List Int)×(List Int)) ((List S_api_Factor)×Int)))).bind λo=>match o with
| .go (b2_0,b2_1,b2_2)=>(
(zdi 72 l1 [(S_api_Factor.mk b2_0 b2_1 b2_2)]).bind λy20=>
some (.go y20))
| .ret r=>some (.ret r)):Option (Out (List S_api_Factor) ((List S_api_Factor)×Int)))).bind λo=>match o with
| .go l1'=>(
zaz r1 p1 p0 n (w64 (v24+1)) l1')
| .ret r=>some (.ret r))
else(
some (.go l1)))
def za7(p0:S_eliminate_query)(p1:Int):Option ((List S_api_Factor)×Int):=
(zdw p0.net).bind λr1=>
bif (r1.2 == 0)then(
((zaz r1 p1 p0 ((r1.1.length:Int) - 0+2:Int).toNat 0 []:Option (Out (List S_api_Factor) ((List S_api_Factor)×Int)))).bind λo=>match o with
| .go l1=>(
some (l1,0))
| .ret r=>some r)
else(
some ([],r1.2))
theorem zeM{p0:S_eliminate_query}{p1:Int}(h:za7 p0 p1=some r):Lx.Fn mC 51 [(.agg [(dI p0.net.grain),(fzE false zac p0.net.nodes),(fzE false (eI .i64) p0.known),(dI p0.node)]),(dU p1)] (.tup [(fzE true zaa r.1),(dI r.2)]):=by
 refine gnO ?_;unfold za7 at h;refine zag ?_;obtain⟨r1,g2,h⟩:=bsM h;refine sSM ?_;refine fCM (zks g2) ?_;refine cBM h (λ_ h=>?_) λ_ h=>?_
 .exact rHM h
 obtain⟨o185,j185,h⟩:=bsM h;obtain⟨T185,hT185⟩:=mkT λa:(List S_api_Factor)=>⟨67,[(8,(.sl 1 0 3 a.length none a.length))],[.gone,.grow 3 (a.map (zaa.c true))]⟩
 refine EvL.jn T185 (λa=>o185=.go a) ?_ ?_
 .refine wSM ?_;obtain⟨T329,hT329⟩:=mkT λa:(Int×(List S_api_Factor))=>⟨67,[(1,(dU p1)),(2,(.ptr 0 0)),(8,(.sl 1 0 3 a.2.length none a.2.length)),(22,(fzE true zaa r1.1)),(23,(dI (r1.1.length:Int))),(24,(dI a.1))],[.cells [(dI p0.net.grain),(fzE false zac p0.net.nodes),(fzE false (eI .i64) p0.known),(dI p0.node)],.grow 3 (a.2.map (zaa.c true))]⟩
  refine EvL.zgK (za8.ghost (n:=3) (k:=8) (by decide) rfl) ?_;refine EvL.rounds (α:=(Int×(List S_api_Factor))) T329 (λn a=>zaz r1 p1 p0 n a.1 a.2=some o185) ((r1.1.length:Int) - 0+2:Int).toNat (0,[]) (by rw[hT329]; exact wm0 [.k,.k] ⟨MB.cs ⟨qdv,qdv,qdv,qdv,qdv⟩,⟨MB.gs zaa true [],qdv⟩⟩) j185 (λ_ h=>nomatch (show(none:Option (Out (List S_api_Factor) ((List S_api_Factor)×Int)))=some o185 from h)) ?_;rintro n ⟨v24,l1⟩ j185;simp only[zaz]at j185;refine wTM hT329 ?_;refine cBM j185 (λ_ j185=>?_) λ_ j185=>?_
  .exact zsg j185 hT185
  obtain⟨o350,j350,j185⟩:=bsM j185;obtain⟨T350,hT350⟩:=zey hT329 λa:(List S_api_Factor)=>uDM (T329 (v24,l1)) [8] [(8,(.sl 1 0 3 a.length none a.length))] [(1,.grow 3 (a.map (zaa.c true)))] []
  refine EvL.jn T350 (λa=>o350=.go a) ?_ ?_
  .refine zag ?_;obtain⟨x5,g6,j350⟩:=bsM j350;obtain⟨q7,g8,j350⟩:=bsM j350;refine sXM (anM @zcN (anM (zbo (n:=3) (e:=zaa) rfl g6) (anM ((zbw g8).1) ((zbw g8).2)))) ?_;refine cBM j350 (λ_ j350=>?_) λ_ j350=>?_
   .obtain⟨o360,j360,j350⟩:=bsM j350;obtain⟨T360,hT360⟩:=zey hT329 λa:((List Int)×(List Int)×(List Int))=>uDM (T329 (v24,l1)) [] [(10,(.ptr 2 0))] [] [.cells [(fzE true (eI .i64) a.1),(fzE true (eI .i64) a.2.1),(fzE true (eI .i64) a.2.2)]]
    refine EvL.jn T360 (λa=>o360=.go a) ?_ ?_
    .refine wSM ?_;obtain⟨T367,hT367⟩:=zey hT329 λa:(Int×(List Int)×(List Int)×(List Int))=>uDM (T329 (v24,l1)) [] [(10,(.ptr 2 0)),(35,(fzE false (eI .i64) p0.known)),(36,(dI (p0.known.length:Int))),(37,(dI a.1))] [] [.cells [(fzE true (eI .i64) a.2.1),(fzE true (eI .i64) a.2.2.1),(fzE true (eI .i64) a.2.2.2)]]
     refine EvL.rounds (α:=(Int×(List Int)×(List Int)×(List Int))) T367 (λn a=>zat p0 n a.1 a.2.1 a.2.2.1 a.2.2.2=some o360) ((p0.known.length:Int) - 0+2:Int).toNat (0,x5.vars,x5.zae,x5.w) (by rw[hT367]; exact wAM) j360 (λ_ h=>nomatch (show(none:Option (Out ((List Int)×(List Int)×(List Int)) ((List S_api_Factor)×Int)))=some o360 from h)) ?_;rintro n ⟨v37,b2_0,b2_1,b2_2⟩ j360;simp only[zat]at j360;refine wTM hT367 ?_;refine cBM j360 (λ_ j360=>?_) λ_ j360=>?_
     .exact zsg j360 hT360
     obtain⟨o369,j369,j360⟩:=bsM j360;obtain⟨T369,hT369⟩:=zey hT367 λa:((List Int)×(List Int)×(List Int))=>uDM (T367 (v37,b2_0,b2_1,b2_2)) [] [] [(2,.cells [(fzE true (eI .i64) a.1),(fzE true (eI .i64) a.2.1),(fzE true (eI .i64) a.2.2)])] []
     refine EvL.jn T369 (λa=>o369=.go a) ?_ ?_
     .refine zag ?_;obtain⟨x11,g12,j369⟩:=bsM j369;refine sXM (ixM g12) ?_;obtain⟨o370,j370,j369⟩:=bsM j369;obtain⟨T370,hT370⟩:=zey hT367 λa:Bool=>uDM (T367 (v37,b2_0,b2_1,b2_2)) [] [(11,(dI v37)),(12,(dI x11)),(49,(dB a))] [] []
      refine EvL.jn T370 (λa=>a=o370) ?_ ?_
      .refine wSM ?_;refine cBM j370 (λ_ j370=>?_) λ_ j370=>?_
       .obtain⟨r14,g15,j370⟩:=bsM j370;refine sSM ?_;refine fCM (zfI g15) ?_;exact zef j370 hT370
       refine EvL.skip rfl ?_;refine sSM ?_;exact zef j370 hT370
      rintro v49 rfl;refine wTM hT370 ?_;refine cBM j369 (λ_ j369=>?_) λ_ j369=>?_
      .obtain⟨r17,g18,j369⟩:=bsM j369;refine sSM ?_;refine fCM (zmn g18) ?_;refine cBM j369 (λ_ j369=>?_) λ_ j369=>?_
       .obtain rfl:=qaj j369;obtain rfl:=qaj j360;obtain rfl:=qaj j350;obtain rfl:=qaj j185;exact rHM h
       exact zsg j369 hT369
      exact zsg j369 hT369
     rintro⟨b2_0',b2_1',b2_2'⟩ rfl;dsimp only at j360;refine wTM hT369 ?_;exact zda hT367 ((w64 (v37+1)),b2_0',b2_1',b2_2') j360
    rintro⟨b2_0,b2_1,b2_2⟩ rfl;dsimp only at j350;refine wTM hT360 ?_;obtain⟨y20,g21,j350⟩:=bsM j350;refine sXM (anM (zbN g21) (anM (plM g21) (show l1.map (zaa.c true)++ [[(fzE true (eI .i64) b2_0),(fzE true (eI .i64) b2_1),(fzE true (eI .i64) b2_2)]]=y20.map (zaa.c true)from zdz g21 (zaa.c true)))) ?_;exact zsg j350 hT350
   exact zsg j350 hT350
  rintro l1' rfl;dsimp only at j185;refine wTM hT350 ?_;exact zda hT329 ((w64 (v24+1)),l1') j185
 rintro l1 rfl;dsimp only at h;refine wTM hT185 ?_;exact rHM h
def zaA(p1:(List Int))(p0:S_eliminate_query):Nat->Int->Int->Option (Out Unit Bool)
 | 0,_,_=>none
 | n+1,v5,v21=>(
bif (decide (v21<(p1.length:Int)))then(
(zaO p1 v21).bind λx5=>
((bif (decide (x5<0))then(
some true)
else(
bif (decide ((p0.net.nodes.length:Int)<=x5))then(
some true)
else(
(zki .u64 v5 x5).bind λq9=>
some ((zkX .u64 q9 1)== 1))):Option Bool)).bind λv41=>
bif v41 then(
some (.ret false))
else(
(zsN .u64 1 x5).bind λq12=>
zaA p1 p0 n (orI .u64 v5 q12) (w64 (v21+1))))
else(
some (.go ())))
def zaQ(p0:S_eliminate_query)(p1:(List Int)):Option Bool:=
bif ((p1.length:Int)==(w64 ((p0.net.nodes.length:Int) - 1)))then(
(zsN .u64 1 p0.node).bind λq2=>
((zaA p1 p0 ((p1.length:Int) - 0+2:Int).toNat q2 0:Option (Out Unit Bool))).bind λo=>match o with
| .go _=>(
some true)
| .ret r=>some r)
else(
some false)
theorem zeK{p0:S_eliminate_query}{p1:(List Int)}{r:Bool}(h:zaQ p0 p1=some r):Lx.Fn mC 40 [(.agg [(dI p0.net.grain),(fzE false zac p0.net.nodes),(fzE false (eI .i64) p0.known),(dI p0.node)]),(fzE false (eI .i64) p1)] (dB r):=by
 refine gnO ?_;unfold zaQ at h;refine wSM ?_;refine cBM h (λ_ h=>?_) λ_ h=>?_
 .exact rHM h
 obtain⟨q2,g3,h⟩:=bsM h;refine sXM (anM ((zdd g3).1) ((zdd g3).2)) ?_;obtain⟨o4,j4,h⟩:=bsM h;obtain⟨T4,hT4⟩:=mkT λa:Unit=>⟨47,[],[]⟩
 refine EvL.jn T4 (λa=>o4=.go a) ?_ ?_
 .refine wSM ?_;obtain⟨T7,hT7⟩:=mkT λa:(Int×Int)=>⟨47,[(2,(.ptr 0 0)),(5,(dU a.1)),(19,(fzE false (eI .i64) p1)),(20,(dI (p1.length:Int))),(21,(dI a.2))],[.cells [(dI p0.net.grain),(fzE false zac p0.net.nodes),(fzE false (eI .i64) p0.known),(dI p0.node)]]⟩
  refine rdM hT7 (λn a=>zaA p1 p0 n a.1 a.2=some o4) (q2,0) j4 ?_;rintro n ⟨v5,v21⟩ j4;simp only[zaA]at j4;refine wTM hT7 ?_;refine cBM j4 (λ_ j4=>?_) λ_ j4=>?_
  .exact zsg j4 hT4
  obtain⟨x5,g6,j4⟩:=bsM j4;refine sXM (ixM g6) ?_;obtain⟨o8,j8,j4⟩:=bsM j4;obtain⟨T8,hT8⟩:=zey hT7 λa:Bool=>uDM (T7 (v5,v21)) [] [(7,(dI x5)),(41,(dB a))] [] []
  refine EvL.jn T8 (λa=>a=o8) ?_ ?_
  .refine wSM ?_;refine cBM j8 (λ_ j8=>?_) λ_ j8=>?_
   .refine cBM j8 (λ_ j8=>?_) λ_ j8=>?_
    .obtain⟨q9,g10,j8⟩:=bsM j8;refine sXM (anM ((zbw g10).1) ((zbw g10).2)) ?_;exact zef j8 hT8
    exact zef j8 hT8
   exact zef j8 hT8
  rintro v41 rfl;refine wTM hT8 ?_;refine cBM j4 (λ_ j4=>?_) λ_ j4=>?_
  .obtain⟨q12,g13,j4⟩:=bsM j4;refine sXM (anM ((zdd g13).1) ((zdd g13).2)) ?_;exact zda hT7 ((orI .u64 v5 q12),(w64 (v21+1))) j4
  obtain rfl:=qaj j4;exact rHM h
 rintro⟨⟩ rfl;dsimp only at h;refine wTM hT4 ?_;exact rHM h
def zbL(p0:S_api_Net)(p1:(List Int))(p2:Int):Option (S_eliminate_query×Int):=
(zbs p0 p1).bind λr1=>
bif (r1 == 0)then(
((bif (decide (p2<0))then(
some true)
else(
some (decide ((p0.nodes.length:Int)<=p2))):Option Bool)).bind λv24=>
bif v24 then(
some ((S_eliminate_query.mk (S_api_Net.mk 0 []) [] 0),2))
else(
some ((S_eliminate_query.mk p0 p1 p2),0)))
else(
some ((S_eliminate_query.mk (S_api_Net.mk 0 []) [] 0),r1))
theorem ziO{p1:(List Int)}{r:(S_eliminate_query×Int)}(h:zbL p0 p1 p2=some r):Lx.FnA mC 39 [(.agg [(dI p0.grain),(fzE false zac p0.nodes)]),(fzE false (eI .i64) p1),(dI p2)] (.tup [(.agg [(dI r.1.net.grain),(fzE false zac r.1.net.nodes),(fzE false (eI .i64) r.1.known),(dI r.1.node)]),(dI r.2)]):=by
 refine zzO ?_;unfold zbL at h;refine zag ?_;obtain⟨r1,g2,h⟩:=bsM h;refine sSM ?_;refine fCM (zgF g2) ?_;refine cBM h (λ_ h=>?_) λ_ h=>?_
 .exact rHM h
 obtain⟨o1,j1,h⟩:=bsM h;obtain⟨T1,hT1⟩:=mkT λa:Bool=>⟨30,[(1,(fzE false (eI .i64) p1)),(2,(dI p2)),(3,(.ptr 0 0)),(6,(.ptr 1 0)),(24,(dB a))],[.cells [(dI p0.grain),(fzE false zac p0.nodes)],.cells [(dI 0),zbU,zbU,(dI 0)]]⟩
 refine EvL.jn T1 _ (bJM j1 hT1) ?_;rintro v24 rfl;refine wTM hT1 ?_;refine cBM h (λ_ h=>?_) λ_ h=>?_
 .exact rHM h
 exact rHM h
def zba:List StI->Int->Int->Option (Int×Int)
 | [],b1_0,b2_0=>some (b1_0,b2_0)
 | y16 :: ys,b1_0,b2_0=>(
zba ys (w64 (b1_0+(w64 ((w64 (y16.1.count - 1))* (y16.1.product.w.length:Int))))) (ze6 b2_0 (y16.1.product.w.length:Int)))
def zco(p0:S_api_Net)(p1:(List Int))(p2:Int)(p3:(List Int)):Option (Int×Int×Int):=
(zbL p0 p1 p2).bind λr1=>
bif (r1.2 == 0)then(
(zaQ r1.1 p3).bind λr4=>
bif r4 then(
(zsN .u64 1 (r1.1.net.nodes.length:Int)).bind λq7=>
(za7 r1.1 (IntKind.u64.wrap (q7 - 1))).bind λr9=>
bif (r9.2 == 0)then(
(zdT r1.1 r9.1 p3).bind λr12=>
(zow r12.1 r12.2.1 r12.2.2).bind λu14=>
((zba u14 0 0:Option (Int×Int))).bind λo=>match o with
|(b1_0,b2_0)=>(
some (b1_0,b2_0,0)))
else(
some (0,0,r9.2)))
else(
some (0,0,2)))
else(
some (0,0,r1.2))
theorem zig{p1:(List Int)}{p3:(List Int)}{r:(Int×Int×Int)}(h:zco p0 p1 p2 p3=some r):Lx.Fn mC 20 [(.agg [(dI p0.grain),(fzE false zac p0.nodes)]),(fzE false (eI .i64) p1),(dI p2),(fzE false (eI .i64) p3)] (.tup [(dI r.1),(dI r.2.1),(dI r.2.2)]):=by
 refine gnO ?_;unfold zco at h;refine zag ?_;obtain⟨r1,g2,h⟩:=bsM h;refine sSM ?_;refine fDM (ziO g2) ?_;refine cBM h (λ_ h=>?_) λ_ h=>?_
 .exact rHM h
 obtain⟨r4,g5,h⟩:=bsM h;refine sSM ?_;refine fCM (zeK g5) ?_;refine cBM h (λ_ h=>?_) λ_ h=>?_
 .exact rHM h
 obtain⟨q7,g8,h⟩:=bsM h;obtain⟨r9,g10,h⟩:=bsM h;refine sXM (anM ((zdd g8).1) ((zdd g8).2)) ?_;refine fCM (zeM g10) ?_;refine cBM h (λ_ h=>?_) λ_ h=>?_
 .exact rHM h
 obtain⟨r12,g13,h⟩:=bsM h;refine sSM ?_;refine EvL.fnT (r:=(.clo 78 [] [(.fptr false ((eL (eI .i64)).c false r12.2.2)),(.fptr false (zao.c false r12.1)),(.ptr 5 0)])) (L':=[.cells [(dI p0.grain),(fzE false zac p0.nodes)],.cells [(dI 0)],.cells [(dI 0)],.cells [(dI r1.1.net.grain),(fzE false zac r1.1.net.nodes),(fzE false (eI .i64) r1.1.known),(dI r1.1.node)],.gone,.cells [(fzE false zaa r12.2.1)]]) (zhD g13) rfl rfl (.cons (Mzs.agg (.cons (.lit _) (.cons (zea _ _ (λh=>by cases h<;>contradiction)) (.cons (zea _ _ (λh=>by cases h<;>contradiction)) (.cons (.lit _) .nil))))) (.cons (zea _ _ (λh=>by cases h<;>contradiction)) (.cons (zea _ _ (λh=>by cases h<;>contradiction)) .nil))) ⟨⟨qdv,(zcx _ _),(zcx _ _),qdv,qdv⟩,(zcx _ _),(zcx _ _),qdv⟩ ⟨⟨qdv,λy hy=>by simp only[qax,qbO,or_false]at hy; rcases hy with rfl | rfl | rfl<;>first | trivial | exact⟨rfl,(eL (eI .i64)).fr _⟩| exact⟨rfl,zao.fr _⟩⟩,qdv⟩ ⟨qdv,⟨⟨zcx _ _,qdv⟩,qdv⟩⟩ rfl rfl ?_;refine sXM @zbl ?_;obtain⟨u14,g15,h⟩:=bsM h;obtain⟨o1,j1,h⟩:=bsM h;obtain⟨T1,hM1⟩:∃ T:(Int×Int)->LB->List LB,T=(λa g=>[.cells [(dI p0.grain),(fzE false zac p0.nodes)],.cells [(dI a.1)],.cells [(dI a.2)],.cells [(dI r1.1.net.grain),(fzE false zac r1.1.net.nodes),(fzE false (eI .i64) r1.1.known),(dI r1.1.node)],.gone,g]):=⟨_,rfl⟩;refine EvL.zgK (S':=⟨65,[(8,(.ptr 1 0)),(9,(.ptr 2 0)),(45,(.clo 78 [] [(.fptr false ((eL (eI .i64)).c false r12.2.2)),(.fptr false (zao.c false r12.1)),(.ptr 5 0)]))],T1 (0,0) (stG r12.2.1 u14 0)⟩) (by rw[hM1,zsZ g15]; exact wm0 [.k,.k,.k,.k,.k,.k] ⟨MB.cs ⟨qdv,qdv,qdv⟩,⟨MB.cs ⟨qdv,qdv⟩,⟨MB.cs ⟨qdv,qdv⟩,⟨MB.cs ⟨qdv,qdv,qdv,qdv,qdv⟩,⟨MB.same trivial,⟨MB.same ⟨qdv,qdv⟩,qdv⟩⟩⟩⟩⟩⟩) ?_;refine EvL.zEJ (n0:=6) (zuy g15 5) rfl (bm:=.block 1 (.seq (.reg false false [⟨some 47,.load none (.s 8),none⟩,⟨some 48,.fld 0 (.s 13),none⟩,⟨some 49,.load none (.s 48),none⟩,⟨some 50,.bin .sub (.s 49) (.c (.int .i64 1)),none⟩,⟨some 51,.fld 1 (.s 13),none⟩,⟨some 52,.fld 2 (.s 51),none⟩,⟨some 53,.load none (.s 52),none⟩,⟨some 54,.len (.s 53),none⟩,⟨some 55,.bin .mul (.s 50) (.s 54),none⟩,⟨some 56,.bin .add (.s 47) (.s 55),none⟩,⟨none,.store 1 (.s 8) (.s 56),none⟩]) (.reg false false [⟨some 57,.load none (.s 9),none⟩,⟨some 58,.fld 1 (.s 13),none⟩,⟨some 59,.fld 2 (.s 58),none⟩,⟨some 60,.load none (.s 59),none⟩,⟨some 61,.len (.s 60),none⟩,⟨some 62,.mm true [(.s 57),(.s 61)],none⟩,⟨none,.store 1 (.s 9) (.s 62),none⟩]))) rfl T1 (λi a=>zba (u14.drop i) a.1 a.2=some o1) (λx L1=>match x with | .normal=>∃ a,∃ g,(∀ kp,LB.kin kp g)/\(∀ n,LB.sc n g)/\o1=a/\L1=T1 a g | .ret=>L1.length=6/\zc1 (6+1) L1/\(zkj [.cell 8 none,.cell 9 none,.tmp 10] ((.tup [(dI r.1),(dI r.2.1),(dI r.2.2)]))) .ret ⟨65,[(8,(.ptr 1 0)),(9,(.ptr 2 0)),(45,(.clo 78 [] [(.fptr false ((eL (eI .i64)).c false r12.2.2)),(.fptr false (zao.c false r12.1)),(.ptr 5 0)]))],L1 ++ [.lost]⟩| _=>False) (0,0) (by decide) ?_ ?_ ?_ (zu1 _ _) (qaz _) ?_ (zx1 _ _) ?_ ?_ (λd L1 hx=>hx.elim) ?_ ?_ ?_ ?_ ?_ ?_
 .intros; rw[hM1]; rfl
 .intros; rw[hM1]; rfl
 .intros; rw[hM1]; rfl
 .exact⟨(qae rfl),(qae rfl),⟨qdv,⟨qdv,qdv,(qae rfl),qdv⟩⟩,qdv⟩
 .intro a g hgs; rw[hM1]; exact⟨⟨qdv,qdv,qdv⟩,⟨qdv,qdv⟩,⟨qdv,qdv⟩,⟨qdv,qdv,qdv,qdv,qdv⟩,qdv,(hgs _),qdv⟩
 .intro x L1 hx;cases x with
  | normal=>obtain⟨a,g,hgk,hgs,_,rfl⟩:=hx; exact⟨by rw[hM1]; rfl,by rw[hM1]; exact⟨⟨qdv,qdv,qdv⟩,⟨qdv,qdv⟩,⟨qdv,qdv⟩,⟨qdv,qdv,qdv,qdv,qdv⟩,qdv,(hgs _),qdv⟩⟩
  | ret=>exact⟨hx.1,hx.2.1⟩
  | exit id=>exact hx.elim
  | panic d=>exact hx.elim
 .exact j1
 .rintro i ⟨b1_0,b2_0⟩ y16 args G lpF g hy hi1 ⟨rfl,gB,hgB,rfl⟩ hkin hgk;rw[zfv hy]at hi1;simp only[zba]at hi1;refine⟨_,_,_,rfl,.box (by decide) (by decide) rfl rfl rfl rfl,?_⟩;rw[congrFun (congrFun hM1 (b1_0,b2_0)) g];refine zag ?_;refine sXM @zbl ?_;exact⟨T1 ((w64 (b1_0+(w64 ((w64 (y16.1.count - 1))* (y16.1.product.w.length:Int))))),(ze6 b2_0 (y16.1.product.w.length:Int))) g,by rw[hM1]; rfl,by rw[hM1]; exact za8.mK [.k,.k,.k,.k,.k,.k,.k,.k,.k] rfl rfl qdv ⟨MB.cs ⟨qdv,qdv,qdv⟩,⟨MB.cs ⟨qdv,qdv⟩,⟨MB.cs ⟨qdv,qdv⟩,⟨MB.cs ⟨qdv,qdv,qdv,qdv,qdv⟩,⟨MB.same trivial,⟨MB.same (hgk _),⟨.same (hkin _ (by decide)),⟨MB.same trivial,⟨MB.same (hgB _),qdv⟩⟩⟩⟩⟩⟩⟩⟩⟩,((w64 (b1_0+(w64 ((w64 (y16.1.count - 1))* (y16.1.product.w.length:Int))))),(ze6 b2_0 (y16.1.product.w.length:Int))),hi1,rfl⟩
 .rintro⟨b1_0,b2_0⟩ i hi1;rw[qbq]at hi1;simp only[zba]at hi1;exact⟨(b1_0,b2_0),_,zu1 _ _ _,zx1 _ _ _,(qaj hi1).symm,rfl⟩
 .rintro _ ⟨⟨b1_0,b2_0⟩,g,hgk,hgs,rfl,rfl⟩;dsimp only at h;rw[congrFun (congrFun hM1 (b1_0,b2_0)) g];refine zag ?_;refine sXM @zbl ?_;exact rHM h
 .intro id L1 hx; exact hx.elim
 intro L1 hx; exact hx.2.2
def zbR(N:Nat)(p0:S_haruspexref05_Draft)(p1:S_haruspexlaw09_Ask):Option Bool:=
(zpb).bind λr1=>
bif r1 then(
(zcL N p0).bind λr4=>
(zbW p1.known r4).bind λr6=>
(zb0 p1 (r4.nodes.length:Int)).bind λr8=>
(zcG (r4.nodes.length:Int) r8 p1.l).bind λr10=>
(zco r4 r6 r8 r10).bind λr12=>
(zd7 r4).bind λr14=>
((bif (r12.2.2 == 0)then(
bif (r14.2 == 0)then(
bif (decide (r12.1<0))then(
some true)
else(
bif (decide (r12.2.1<1))then(
some true)
else(
bif (decide (r14.1<r12.2.1))then(
some true)
else(
(zaO r6 r8).bind λx21=>
bif (decide (x21<0))then(
(zaO r4.nodes r8).bind λx24=>
some (decide (r12.2.1<x24.zaC)))
else(
some false)))))
else(
some true))
else(
some true):Option Bool)).bind λv81=>
bif v81 then(
some false)
else(
((bif (decide (r12.1<=(w64 ((w64 ((r4.nodes.length:Int)* (r4.nodes.length:Int)))* r14.1))))then(
bif (decide (1<(r4.nodes.length:Int)))then(
some true)
else(
some (r12.1 == 0)))
else(
some false):Option Bool)).bind λv4=>
some v4))
else(
some false)
theorem zfP{N:Nat}{p0:S_haruspexref05_Draft}{p1:S_haruspexlaw09_Ask}{r:Bool}(h:zbR N p0 p1=some r):Lx.Fn mC 6 [(.agg [(dU8 p0.grain),(fzE false zan p0.nodes),(fzE false (eI .u8) p0.order)]),(.agg [(dU8 p1.known.which),(dU8 p1.known.v.a0),(dU8 p1.known.v.a1),(dU8 p1.known.v.a2),(dU8 p1.known.v.a3),(dU8 p1.known.v.a4),(dU8 p1.known.v.a5),(dU8 p1.known.v.a6),(dU8 p1.known.v.a7),(dI p1.v),(dU8 p1.l.a0),(dU8 p1.l.a1),(dU8 p1.l.a2),(dU8 p1.l.a3),(dU8 p1.l.a4),(dU8 p1.l.a5),(dU8 p1.l.a6),(dU8 p1.l.a7),(fzE false (eI .i64) p1.e),(fzE false (eI .i64) p1.order)])] (dB r):=by
 refine gnP (List.range 18) [] ?_;unfold zbR at h;refine zag ?_;obtain⟨r1,g2,h⟩:=bsM h;refine sSM ?_;refine fCM (zxA g2) ?_;refine cBM h (λ_ h=>?_) λ_ h=>?_
 .exact rHM h
 obtain⟨r4,g5,h⟩:=bsM h;refine sSM ?_;refine fCM (ziI g5) ?_;obtain⟨r6,g7,h⟩:=bsM h;refine sSM ?_;refine fCM (zjt g7) ?_;obtain⟨r8,g9,h⟩:=bsM h;refine sSM ?_;refine fCM (zjw g9) ?_;obtain⟨r10,g11,h⟩:=bsM h;refine sSM ?_;refine fCM (zlr g11) ?_;obtain⟨r12,g13,h⟩:=bsM h;refine sSM ?_;refine fCM (zig g13) ?_;obtain⟨r14,g15,h⟩:=bsM h;refine sSM ?_;refine fCM (zmF g15) ?_;obtain⟨o1,j1,h⟩:=bsM h;obtain⟨T1,hT1⟩:=mkT λa:Bool=>⟨103,[(5,(.ptr 2 0)),(8,(dI r12.1)),(11,(dI r14.1)),(81,(dB a))],[.gone,.gone,.cells [(dI r4.grain),(fzE true zac r4.nodes)]]⟩
 refine EvL.jn T1 (λa=>a=o1) ?_ ?_
 .refine wSM ?_;refine cBM j1 (λ_ j1=>?_) λ_ j1=>?_
  .exact zef j1 hT1
  refine cBM j1 (λ_ j1=>?_) λ_ j1=>?_
  .exact zef j1 hT1
  refine cBM j1 (λ_ j1=>?_) λ_ j1=>?_
  .refine cBM j1 (λ_ j1=>?_) λ_ j1=>?_
   .refine cBM j1 (λ_ j1=>?_) λ_ j1=>?_
    .obtain⟨x21,g22,j1⟩:=bsM j1;refine sXM (ixM g22) ?_;refine cBM j1 (λ_ j1=>?_) λ_ j1=>?_
     .exact zef j1 hT1
     obtain⟨x24,g25,j1⟩:=bsM j1;refine sXM (anM @zaM (zbo (n:=3) (e:=zac) rfl g25)) ?_;exact zef j1 hT1
    exact zef j1 hT1
   exact zef j1 hT1
  exact zef j1 hT1
 rintro v81 rfl;refine wTM hT1 ?_;refine cBM h (λ_ h=>?_) λ_ h=>?_
 .obtain⟨o2,j2,h⟩:=bsM h;obtain⟨T2,hT2⟩:=mkT λa:Bool=>⟨103,[(4,(dB a))],[]⟩
  refine EvL.jn T2 _ (bJM j2 hT2) ?_;rintro v4 rfl;refine wTM hT2 ?_;exact rHM h
 exact rHM h
end Go.Dc
