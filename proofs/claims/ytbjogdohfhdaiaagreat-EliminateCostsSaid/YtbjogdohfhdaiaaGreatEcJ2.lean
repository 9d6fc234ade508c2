/-
 What net.rows hands back: a closure over its node. Conditions: none.
-/
import Derived.Test.YtbjogdohfhdaiaaGreatEcDm
import Derived.Test.YtbjogdohfhdaiaaGreatEcLi
import Derived.Test.YtbjogdohfhdaiaaGreatEcLy17
set_option linter.unusedSimpArgs false
set_option linter.unusedVariables false
set_option maxRecDepth 100000
set_option maxHeartbeats 4000000
namespace Go.Dc
open Go Go.Mx Go.Lx Go.Proofs
def ze5(x:S_api_Node):Option S_api_Node:=some x
theorem zjT{x r:S_api_Node}(h:ze5 x=some r):Lx.FnA mC 114 [.agg (zaa.c false x)] (.clo 129 [] [.fptr false (zaa.c false r)]):=by
 cases h;refine zz4 ?_;refine zad ?_;refine sXM @zak ?_;refine zuD.ret rfl (.clo rfl rfl (λi d d' h1 h2=>by simp at h1) λi d d' h1 h2=>?_);cases i with
 | zero=>
  simp only[qcF,qaf]at h1 h2;subst h1;subst h2;exact .ptr rfl (qap _) λk d d' h3 h4=>by
   rw[qaR]at h3;exact(zaa.snp (L:=_) (t:=false) (t':=false) x id).get k d d' h3 h4
 | succ i=>simp at h1
def zoB:C:=
 (.seq (rg [oB 9 .lss 8 7])
 (.seq (.cond (.s 9) (.skip)
 (.exit 0))
 (.seq (.block 1 (.seq (rg [oM 10 8,
 oI 11 1 6 8,
 oL 12 11,
 oM 3 10,
 oM 4 12])
 (.seq (rg [oM 13 0,
 oM 14 3,
 oM 15 4,
 ⟨some 16,.zej (.s 13) [(.s 14),(.s 15)],none⟩,
 ⟨some 17,.un .not (.s 16),none⟩])
 (.cond (.s 17) (.ret)
 (.skip)))))
 (rg [oD 18 .add 8 1,
 oM 8 18]))))
def zzB:C:=
 .seq (rg [oF 5 2 1,
 oL 6 5,
 oE 7 6,
 oK 8 0])
 (.scope (.block 0 (.loop zoB)))
theorem zyg:zt5 mC 129=some (19,zzB,[],false):=zhR (by kernel_rfl)
theorem zyI{α:Type}{xs:List α}{i:Nat}{x:α}(h:xs[i]? = some x):(zro xs)[i]? = some ((i:Int),x):=by
 simp[zro,h]
theorem zx8{α:Type}(xs:List α):(zro xs).length=xs.length:=by simp[zro]
theorem zta{L L1:List LB}(h:L=L1 ++ []):L=L1:=by simpa using h
theorem zi7(x:S_api_Node){u:Unit}(hu:zeT x.rows=some u):Gen mC 129 [] [.fptr false (zaa.c false x)] (zro x.rows) (λy n0 args G=>args=[dI y.1,fzE false (eI .i64) y.2]/\G=[]):=by
 intro n0 β P Ps hβ hlen hround L hP;refine zdK.ofM zyg (zfJ rfl) (qad rfl) ?_;simp only[zzB,zCW];refine zad ?_;refine sXM @zak ?_;refine EvL.scope (zad ?_);refine sSM ?_;have hw:∀(i:Nat),(i:Int)<x.rows.length->IntKind.i64.wrap ((i:Int)+1)=((i+1:Nat):Int):=by
  intro i hi;have:=zih hu;rw[wrap64 (by omega) (by omega)];omega
 refine EvL.loop (α:=Nat×List LB) (λa=>⟨19,[(0,.yld β),(6,fzE false (eL (eI .i64)) x.rows),(7,dI x.rows.length),(8,dI a.1)],a.2⟩) (λa=>P a.1 a.2/\a.1<=x.rows.length) (λa=>x.rows.length - a.1) (0,L) (za8.sub ⟨rfl,rfl,rfl,rfl,qds⟩) ⟨hP,qar _⟩ ?_;rintro⟨i,L'⟩ ⟨hPi,hi⟩;simp only[zoB,zCW];refine zad ?_;cases hc:decide ((i:Int)<(x.rows.length:Int))with
 | false=>
  refine sXM hc ?_;refine⟨[],rfl,L',[],by simp,hlen _ _ hPi,.inl ?_⟩;rw[zx8];have h1:=of_decide_eq_false hc;have h2:i=x.rows.length:=by omega
  rw[<- h2];exact hPi
 | true=>
  have h1:=of_decide_eq_true hc;have h2:i<x.rows.length:=by omega
  have hg:zaE x.rows (i:Int)=some x.rows[i]:=zmR h2;refine sXM (anM hc (zaq (n:=1) (e:=eL (eI .i64)) rfl hg)) ?_;refine EvL.yield rfl rfl rfl (hround i ((i:Int),x.rows[i]) L' _ [] (zyI (qac h2)) hPi ⟨rfl,rfl⟩|> λh=>by rw[qaH]at h; exact h) ?_;rintro b L2 ⟨L1,hL2,hl1,hb⟩;have:=zta hL2;subst this;cases b with
  | true=>
   refine sSM ?_;refine⟨(i+1,L2),⟨hb,h2⟩,?_,za8.sub ⟨rfl,rfl,rfl,?_,qds⟩⟩
   .show x.rows.length - (i+1)<x.rows.length - i; omega
   .simp only[lk,if_true];rw[hw i h1]
  | false=>
   refine sSM ?_;exact⟨[],rfl,L2,[],by simp,hl1,.inr hb⟩
def zbp(p1:S_api_Node)(p0:S_net_network):Nat->Int->Int->Option Int
 | 0,_,_=>none
 | n+1,v5,v16=>(
bif (decide (v16<(p1.parents.length:Int)))then(
(zaE p1.parents v16).bind λx2=>
(zaE p0.zah x2).bind λx4=>
zbp p1 p0 n (w64 (v5 * x4)) (w64 (v16+1)))
else(
some v5))
def zaJ(y11:(Int×(List Int))):Nat->Int->Int->Option (Out Int Bool)
 | 0,_,_=>none
 | n+1,v10,v42=>(
bif (decide (v42<(y11.2.length:Int)))then(
(zaE y11.2 v42).bind λx13=>
((bif (decide (x13<0))then(
some true)
else(
some (decide (v10<x13))):Option Bool)).bind λv52=>
bif v52 then(
some (.ret false))
else(
zaJ y11 n (w64 (v10 - x13)) (w64 (v42+1))))
else(
some (.go v10)))
def zaC(p0:S_net_network)(p1:S_api_Node):List (Int×(List Int))->Option (Out Unit Bool)
 | []=>some (.go ())
 | y11 :: ys=>(
((zaJ y11 ((y11.2.length:Int) - 0+2:Int).toNat p0.net.grain 0:Option (Out Int Bool))).bind λo=>match o with
| .go v10=>(
((bif ((y11.2.length:Int)== p1.zaF)then(
some (!(v10 == 0)))
else(
some true):Option Bool)).bind λv65=>
bif v65 then(
some (.ret false))
else(
zaC p0 p1 ys))
| .ret r=>some (.ret r))
def zaV(p0:S_net_network)(p1:S_api_Node):Option Bool:=
((zbp p1 p0 ((p1.parents.length:Int) - 0+2:Int).toNat 1 0:Option Int)).bind λv5=>
bif ((p1.rows.length:Int)== v5)then(
(ze5 p1).bind λr7=>
(zeT r7.rows).bind λu9=>
((zaC p0 p1 (zro r7.rows):Option (Out Unit Bool))).bind λo=>match o with
| .go _=>(
some true)
| .ret r=>some r)
else(
some false)
variable{r:Bool}
theorem zgG{p0:S_net_network}{p1:S_api_Node}(h:zaV p0 p1=some r):Lx.Fn mC 87 [(.agg [(dI p0.net.grain),(fzE false zaa p0.net.nodes),(fzE false (eI .i64) p0.zah),(fzE false (eI .u64) p0.sets),(fzE false (eI .i64) p0.order)]),(.agg [(dI p1.zaF),(fzE false (eI .i64) p1.parents),(fzE false (eL (eI .i64)) p1.rows)])] (dB r):=by
 refine gnO ?_;unfold zaV at h;refine wSM ?_;obtain⟨o1,j1,h⟩:=bsM h;refine usM [2,3,4] 3 (λa:Int=>([(5,(dI a))],[],[])) λT1 hT1=>?_
 refine EvL.jn T1 (λa=>a=o1) ?_ ?_
 .refine wSM ?_;refine usM [2,3,4,14,15] 3 (λa:(Int×Int)=>([(5,(dI a.1)),(16,(dI a.2))],[],[])) λT2 hT2=>?_
  refine rdM hT2 (λn a=>zbp p1 p0 n a.1 a.2=some o1) (1,0) j1 ?_;rintro n ⟨v5,v16⟩ j1;simp only[zbp]at j1;refine wTM hT2 ?_;refine cBM j1 (λ_ j1=>?_) λ_ j1=>?_
  .exact zch j1 hT1
  obtain⟨x2,g3,x4,g5,j1⟩:=zfo j1;refine sXM (anM (ixM g3) (ixM g5)) ?_;exact zcr hT2 ((w64 (v5 * x4)),(w64 (v16+1))) j1
 rintro v5 rfl;refine wTM hT1 ?_;refine cBM h (λ_ h=>?_) λ_ h=>?_
 .exact rHM h
 obtain⟨r7,g8,h⟩:=bsM h;refine sSM ?_;refine fDM (zjT g8) ?_;refine sXM @zak ?_;obtain⟨u9,g10,o12,j12,h⟩:=zfo h;obtain⟨T12,hM12⟩:∃ T:Unit->List LB,T=(λa=>[.cells [(dI p0.net.grain),(fzE false zaa p0.net.nodes),(fzE false (eI .i64) p0.zah),(fzE false (eI .u64) p0.sets),(fzE false (eI .i64) p0.order)],.cells [(dI p1.zaF),(fzE false (eI .i64) p1.parents),(fzE false (eL (eI .i64)) p1.rows)],.cells [(dB false)]]):=⟨_,rfl⟩;refine EvL.zgd (S':=⟨66,[(2,(.ptr 0 0)),(3,(.ptr 1 0)),(4,(.ptr 2 0)),(34,(.clo 129 [] [(.fptr false (zaa.c false r7))]))],T12 ()⟩) (by rw[hM12]; exact wAM) ?_;refine EvL.zhd (n0:=3) (zi7 r7 g10) rfl (bm:=.block 3 (.seq (.reg false false [⟨some 37,.fld 0 (.s 2),none⟩,⟨some 38,.fld 0 (.s 37),none⟩,⟨some 39,.load none (.s 38),none⟩,⟨some 10,.mov (.s 39),none⟩]) (.seq (.seq (.reg false false [⟨some 40,.mov (.s 9),none⟩,⟨some 41,.len (.s 40),none⟩,⟨some 42,.mov (.c (.int .i64 0)),none⟩]) (.scope (.block 4 (.loop (.seq (.reg false false [⟨some 43,.bin .lss (.s 42) (.s 41),none⟩]) (.seq (.cond (.s 43) (.skip) (.exit 4)) (.seq (.block 5 (.seq (.reg false false [⟨some 44,.idxS 1 (.s 40) (.s 42),none⟩,⟨some 45,.load none (.s 44),none⟩,⟨some 12,.mov (.s 45),none⟩]) (.seq (.seq (.scope (.reg false false [⟨some 46,.mov (.s 12),none⟩,⟨some 47,.bin .lss (.s 46) (.c (.int .i64 0)),none⟩,⟨some 48,.mov (.s 47),none⟩,⟨some 49,.mov (.s 12),some (48,false)⟩,⟨some 50,.mov (.s 10),some (48,false)⟩,⟨some 51,.bin .gtr (.s 49) (.s 50),some (48,false)⟩,⟨some 52,.pick (.s 48) (.c (.bool true)) (.s 51),none⟩])) (.cond (.s 52) (.seq (.reg false false [⟨none,.store 1 (.s 4) (.c (.bool false)),none⟩]) (.ret)) (.skip))) (.reg false false [⟨some 53,.mov (.s 10),none⟩,⟨some 54,.mov (.s 12),none⟩,⟨some 55,.bin .sub (.s 53) (.s 54),none⟩,⟨some 10,.mov (.s 55),none⟩])))) (.reg false false [⟨some 56,.bin .add (.s 42) (.c (.int .i64 1)),none⟩,⟨some 42,.mov (.s 56),none⟩])))))))) (.seq (.scope (.reg false false [⟨some 57,.mov (.s 9),none⟩,⟨some 58,.len (.s 57),none⟩,⟨some 59,.fld 0 (.s 3),none⟩,⟨some 60,.load none (.s 59),none⟩,⟨some 61,.bin .neq (.s 58) (.s 60),none⟩,⟨some 62,.mov (.s 61),none⟩,⟨some 63,.mov (.s 10),some (62,false)⟩,⟨some 64,.bin .neq (.s 63) (.c (.int .i64 0)),some (62,false)⟩,⟨some 65,.pick (.s 62) (.c (.bool true)) (.s 64),none⟩])) (.cond (.s 65) (.seq (.reg false false [⟨none,.store 1 (.s 4) (.c (.bool false)),none⟩]) (.ret)) (.skip)))))) rfl T12 (λi a=>zaC p0 p1 ((zro r7.rows).drop i)=some o12) (λx L1=>match x with | .normal=>∃ a,o12=.go a/\L1=T12 a | .ret=>L1.length=3/\zdw (3+1) L1/\(zje [.cell 4 none] ((dB r))) .ret ⟨66,[(2,(.ptr 0 0)),(3,(.ptr 1 0)),(4,(.ptr 2 0)),(34,(.clo 129 [] [(.fptr false (zaa.c false r7))]))],L1 ++ [.lost]⟩| _=>False) () ?_ (qar _) ?_ ?_ ?_ (λd L1 hx=>hx.elim) ?_ ?_ ?_ ?_ ?_ ?_
 .intro a; rw[hM12]; rfl
 .exact⟨(qad rfl),(qad rfl),(qad rfl),⟨qds,⟨qds,qds⟩⟩,qds⟩
 .intro a; rw[hM12]; exact⟨⟨qds,qds,qds,qds,qds,qds⟩,⟨qds,qds,qds,qds⟩,⟨qds,qds⟩,qds⟩
 .intro x L1 hx;cases x with
  | normal=>obtain⟨a,_,rfl⟩:=hx; exact⟨by rw[hM12]; rfl,by rw[hM12]; exact⟨⟨qds,qds,qds,qds,qds,qds⟩,⟨qds,qds,qds,qds⟩,⟨qds,qds⟩,qds⟩⟩
  | ret=>exact⟨hx.1,hx.2.1⟩
  | exit id=>exact hx.elim
  | panic d=>exact hx.elim
 .exact j12
 .rintro i ⟨⟩ y11 args G lpF hy hi12 ⟨rfl,rfl⟩ hkin;rw[zf4 hy]at hi12;simp only[zaC]at hi12;refine⟨_,_,rfl,rfl,?_⟩;rw[congrFun hM12 ()];refine zad ?_;refine sXM @zak ?_;obtain⟨o16,j16,hi12⟩:=bsM hi12;refine usM [3,4,9] 4 (λa:Int=>([(10,(dI a))],[],[])) λT16 hT16=>?_
  refine EvL.jn T16 (λa=>o16=.go a) ?_ ?_
  .refine wSM ?_;refine usM [3,4,9,40,41] 4 (λa:(Int×Int)=>([(10,(dI a.1)),(42,(dI a.2))],[],[])) λT19 hT19=>?_
   refine rdM hT19 (λn a=>zaJ y11 n a.1 a.2=some o16) (p0.net.grain,0) j16 ?_;rintro n ⟨v10,v42⟩ j16;simp only[zaJ]at j16;refine wTM hT19 ?_;refine cBM j16 (λ_ j16=>?_) λ_ j16=>?_
   .exact zk6 j16 hT16
   obtain⟨x13,g14,j16⟩:=bsM j16;refine sXM (ixM g14) ?_;obtain⟨o20,j20,j16⟩:=bsM j16;obtain⟨T20,hT20⟩:=zcC hT19 λa:Bool=>uDM (T19 (v10,v42)) [] [(12,(dI x13)),(52,(dB a))] [] []
   refine EvL.jn T20 _ (bJM j20 hT20) ?_;rintro v52 rfl;refine wTM hT20 ?_;refine cBM j16 (λ_ j16=>?_) λ_ j16=>?_
   .exact zcr hT19 ((w64 (v10 - x13)),(w64 (v42+1))) j16
   obtain rfl:=qae j16;obtain rfl:=qae hi12;obtain rfl:=qae h;exact⟨[.cells [(dI p0.net.grain),(fzE false zaa p0.net.nodes),(fzE false (eI .i64) p0.zah),(fzE false (eI .u64) p0.sets),(fzE false (eI .i64) p0.order)],.cells [(dI p1.zaF),(fzE false (eI .i64) p1.parents),(fzE false (eL (eI .i64)) p1.rows)],.cells [(dB false)]],rfl,wKM,rfl,⟨⟨qds,qds,qds,qds,qds,qds⟩,⟨qds,qds,qds,qds⟩,⟨qds,qds⟩,qds⟩,zje.ret rfl (.lit _)⟩
  rintro v10 rfl;dsimp only at hi12;refine wTM hT16 ?_;obtain⟨o21,j21,hi12⟩:=bsM hi12;obtain⟨T21,hT21⟩:=zcC hT16 λa:Bool=>uKM (T16 v10) [4] [(65,(dB a))] [] []
  refine EvL.jn T21 _ (bJM j21 hT21) ?_;rintro v65 rfl;refine wTM hT21 ?_;refine cBM hi12 (λ_ hi12=>?_) λ_ hi12=>?_
  .exact⟨T12 (),by rw[hM12]; rfl,by rw[hM12]; exact wKM,(),hi12,rfl⟩
  obtain rfl:=qae hi12;obtain rfl:=qae h;exact⟨[.cells [(dI p0.net.grain),(fzE false zaa p0.net.nodes),(fzE false (eI .i64) p0.zah),(fzE false (eI .u64) p0.sets),(fzE false (eI .i64) p0.order)],.cells [(dI p1.zaF),(fzE false (eI .i64) p1.parents),(fzE false (eL (eI .i64)) p1.rows)],.cells [(dB false)]],rfl,wKM,rfl,⟨⟨qds,qds,qds,qds,qds,qds⟩,⟨qds,qds,qds,qds⟩,⟨qds,qds⟩,qds⟩,zje.ret rfl (.lit _)⟩
 .rintro⟨⟩ hi12;rw[qbx]at hi12;simp only[zaC]at hi12;exact⟨(),(qae hi12).symm,rfl⟩
 .rintro _ ⟨⟨⟩,rfl,rfl⟩;dsimp only at h;rw[congrFun hM12 ()];refine zad ?_;refine sXM @zak ?_;exact rHM h
 .intro id L1 hx; exact hx.elim
 intro L1 hx; exact hx.2.2
def zbG(p0:(List Int))(v5:Int)(C1:Nat):Nat->Int->(List Int)->Option (Out3 Unit (Int×(List Int)) ((List Int)×Bool))
 | 0,_,_=>none
 | n+1,v18,l0'=>(
bif (decide (v18<(p0.length:Int)))then(
(zaE p0 v18).bind λx5=>
(((zku .u64 v5 v18).bind λq7=>
bif ((zkZ .u64 q7 1)== 0)then(
some (((zCZ .u64 x5 v5)== 0),l0'))
else(
some (false,l0')):Option ((Bool×(List Int))))).bind λo=>match o with
|(v33,l0'')=>(
bif v33 then(
(zpW C1 l0'' [v18]).bind λy11=>
(zpr .u64 1 v18).bind λq13=>
some (.brk ((orI .u64 v5 q13),y11)))
else(
zbG p0 v5 C1 n (w64 (v18+1)) l0'')))
else(
some (.go ())))
def zbS(p0:(List Int))(C1:Nat):Nat->Int->(List Int)->Option (Out (List Int) ((List Int)×Bool))
 | 0,_,_=>none
 | n+1,v5,l0=>(
bif (decide (((l0.length:Nat):Int)<(p0.length:Int)))then(
((zbG p0 v5 C1 ((p0.length:Int) - 0+2:Int).toNat 0 l0:Option (Out3 Unit (Int×(List Int)) ((List Int)×Bool)))).bind λo=>match o with
| .go _=>(
some (.ret ([],false)))
| .brk (v5',l0')=>(
zbS p0 C1 n v5' l0')
| .ret r=>some (.ret r))
else(
some (.go l0)))
def zcy(p0:(List Int)):Option ((List Int)×Bool):=
(zzG 8 (p0.length:Int)).bind λC1=>
((zbS p0 C1 ((p0.length:Int) - ((([]:List Int).length:Nat):Int)+2:Int).toNat 0 ([]:List Int):Option (Out (List Int) ((List Int)×Bool)))).bind λo=>match o with
| .go l0=>(
some (l0,true))
| .ret r=>some r
variable{p0:(List Int)}
theorem zmD{r:((List Int)×Bool)}(h:zcy p0=some r):Lx.Fn mC 88 [(fzE false (eI .u64) p0)] (.tup [(fzE true (eI .i64) r.1),(dB r.2)]):=by
 refine gnO ?_;unfold zcy at h;refine wSM ?_;refine EvL.scope (zad ?_);obtain⟨C1,g2,h⟩:=bsM h;refine sXM (anM ((zm8 g2).1.1) (anM ((zm8 g2).1.2) (anM ((zm8 g2).2) (anM @qbS (anM @Int.toNat_zero (show List.replicate C1 [(dI 0)]=(room [] C1 0).map ((eI .i64).c true)from zyY g2 0 ((eI .i64).c true))))))) ?_;obtain⟨o84,j84,h⟩:=bsM h;refine usM [] 1 (λa:(List Int)=>([(4,(.sl 0 0 1 a.length (some C1) C1))],[(0,.els 1 ((room a C1 0).map ((eI .i64).c true)))],[])) λT84 hT84=>?_
 refine EvL.jn T84 (λa=>o84=.go a/\a.length<=C1) ?_ ?_
 .refine wSM ?_;refine usM [0] 1 (λa:(Int×(List Int))=>([(4,(.sl 0 0 1 a.2.length (some C1) C1)),(5,(dU a.1))],[(0,.els 1 ((room a.2 C1 0).map ((eI .i64).c true)))],[])) λT103 hT103=>?_
  refine rdM hT103 (λn a=>zbS p0 C1 n a.1 a.2=some o84/\a.2.length<=C1) (0,([]:List Int)) ⟨j84,(qar _)⟩ ?_;rintro n ⟨v5,l0⟩ ⟨j84,el0⟩;simp only[zbS]at j84;rw[congrFun hT103 (v5,l0)];refine zad ?_;refine sXM (zjn el0 0) ?_;refine cBM j84 (λ_ j84=>?_) λ_ j84=>?_
  .obtain rfl:=qae j84;exact zcr hT84 _ ⟨rfl,el0⟩
  obtain⟨o108,j108,j84⟩:=bsM j84;refine usM [] 0 (λa:Unit=>([],[],[])) λT108 hT108=>?_
  refine usM [0] 1 (λa:(Int×(List Int))=>([(4,(.sl 0 0 1 a.2.length (some C1) C1)),(5,(dU a.1))],[(0,.els 1 ((room a.2 C1 0).map ((eI .i64).c true)))],[])) λTB108 hTB108=>?_
  refine EvL.jn2 (id:=1) T108 (λa=>o108=.go a) TB108 (λa=>o108=.brk a/\a.2.length<=C1) (λid S hx=>by first | (rcases hx with⟨hx | hx,_⟩<;> cases hx)| exact hx.elim) ?_ ?_ ?_
  .refine wSM ?_;refine usM [0,5,16,17] 1 (λa:(Int×(List Int))=>([(4,(.sl 0 0 1 a.2.length (some C1) C1)),(18,(dI a.1))],[(0,.els 1 ((room a.2 C1 0).map ((eI .i64).c true)))],[])) λT111 hT111=>?_
   refine rdM hT111 (λn a=>zbG p0 v5 C1 n a.1 a.2=some o108/\a.2.length<=C1) (0,l0) ⟨j108,el0⟩ ?_;rintro n ⟨v18,l0'⟩ ⟨j108,el0'⟩;simp only[zbG]at j108;refine wTM hT111 ?_;refine cBM j108 (λ_ j108=>?_) λ_ j108=>?_
   .obtain rfl:=qae j108;exact zcr hT108 _ rfl
   obtain⟨x5,g6,j108⟩:=bsM j108;refine sXM (zaq (n:=1) (e:=(eI .u64)) rfl g6) ?_;obtain⟨o112,j112,j108⟩:=bsM j108;obtain⟨T112,hT112⟩:=zcC hT111 λa:(Bool×(List Int))=>uDM (T111 (v18,l0')) [4] [(4,(.sl 0 0 1 a.2.length (some C1) C1)),(6,(dI v18)),(33,(dB a.1))] [(0,.els 1 ((room a.2 C1 0).map ((eI .i64).c true)))] []
   refine EvL.jn T112 (λa=>a=o112/\a.2.length<=C1) ?_ ?_
   .refine zad ?_;obtain⟨q7,g8,j112⟩:=bsM j112;refine sXM (anM ((zbA g8).1) ((zbA g8).2)) ?_;refine cBM j112 (λ_ j112=>?_) λ_ j112=>?_
    .obtain rfl:=qae j112;exact zcr hT112 _ ⟨rfl,el0'⟩
    obtain rfl:=qae j112;exact zcr hT112 _ ⟨rfl,el0'⟩
   rintro⟨v33,l0''⟩ ⟨rfl,el0''⟩;dsimp only at j108;refine wTM hT112 ?_;refine cBM j108 (λ_ j108=>?_) λ_ j108=>?_
   .exact zcr hT111 ((w64 (v18+1)),l0'') ⟨j108,el0''⟩
   obtain⟨y11,g12,q13,g14,j108⟩:=zfo j108;refine sXM (anM (zjn el0'' 0) (anM (show l0''.length+1=y11.length from zn2 g12) (anM (zre g12) (anM (show((room l0'' C1 0).map ((eI .i64).c true)).take l0''.length ++ [[(dI v18)]]++ ((room l0'' C1 0).map ((eI .i64).c true)).drop y11.length=(room y11 C1 0).map ((eI .i64).c true)from zui g12 0 ((eI .i64).c true)) (anM ((zby g14).1) ((zby g14).2)))))) ?_;obtain rfl:=qae j108;exact zcr hTB108 _ ⟨rfl,(zre g12)⟩
  .rintro⟨⟩ rfl;dsimp only at j84;refine wTM hT108 ?_;obtain rfl:=qae j84;exact rHM h
  rintro⟨v5',l0'⟩ ⟨rfl,el0'⟩;dsimp only at j84;refine wTM hTB108 ?_;exact zcr hT103 (v5',l0') ⟨j84,el0'⟩
 rintro l0 ⟨rfl,el0⟩;dsimp only at h;refine wTM hT84 ?_;obtain rfl:=qae h;exact zje.ret rfl (Snp.zC6 (.cons (zzl (e:=(eI .i64)) (t:=true) (z:=0) rfl rfl el0 (λ_=>rfl)) (.cons (.lit _) .nil)))
def zb4(p0:S_api_Net):Nat->Int->Int->(List Int)->Option (Out (Int×(List Int)) (S_net_network×Int))
 | 0,_,_,_=>none
 | n+1,v5,v50,l2=>(
bif (decide (v50<(p0.nodes.length:Int)))then(
(zaE p0.nodes v50).bind λx8=>
((bif (decide (x8.zaF<1))then(
some true)
else(
some (decide (4<x8.zaF))):Option Bool)).bind λv62=>
bif v62 then(
some (.ret ((S_net_network.mk (S_api_Net.mk 0 []) [] [] []),50)))
else(
(zaE l2 v50).bind λx12=>
(zfl l2 v50 x8.zaF).bind λy14=>
zb4 p0 n (w64 (v5 * x8.zaF)) (w64 (v50+1)) y14))
else(
some (.go (v5,l2))))
def zcE(x18:S_api_Node)(p0:S_api_Net)(v82:Int):Nat->Int->Int->(List Int)->Option (Out (List Int) (S_net_network×Int))
 | 0,_,_,_=>none
 | n+1,v10,v90,l3'=>(
bif (decide (v90<(x18.parents.length:Int)))then(
(zaE x18.parents v90).bind λx21=>
((bif (decide (x21<=v10))then(
some true)
else(
bif (decide ((p0.nodes.length:Int)<=x21))then(
some true)
else(
some (x21 == v82))):Option Bool)).bind λv109=>
bif v109 then(
some (.ret ((S_net_network.mk (S_api_Net.mk 0 []) [] [] []),50)))
else(
(zaE l3' v82).bind λx26=>
(zpr .u64 1 x21).bind λq28=>
(zfl l3' v82 (orI .u64 x26 q28)).bind λy30=>
zcE x18 p0 v82 n x21 (w64 (v90+1)) y30))
else(
some (.go l3')))
def zb5(p0:S_api_Net)(l2:(List Int)):Nat->Int->(List Int)->Option (Out (List Int) (S_net_network×Int))
 | 0,_,_=>none
 | n+1,v82,l3=>(
bif (decide (v82<(p0.nodes.length:Int)))then(
(zaE p0.nodes v82).bind λx18=>
((zcE x18 p0 v82 ((x18.parents.length:Int) - 0+2:Int).toNat (-1) 0 l3:Option (Out (List Int) (S_net_network×Int)))).bind λo=>match o with
| .go l3'=>(
(zaV (S_net_network.mk p0 l2 l3' []) x18).bind λr32=>
bif r32 then(
zb5 p0 l2 n (w64 (v82+1)) l3')
else(
some (.ret ((S_net_network.mk (S_api_Net.mk 0 []) [] [] []),50))))
| .ret r=>some (.ret r))
else(
some (.go l3)))
def zdu(p0:S_api_Net):Option (S_net_network×Int):=
((bif (decide (p0.grain<1))then(
some true)
else(
bif (decide (60<p0.grain))then(
some true)
else(
bif (decide ((p0.nodes.length:Int)<1))then(
some true)
else(
some (decide (8<(p0.nodes.length:Int)))))):Option Bool)).bind λv34=>
bif v34 then(
some ((S_net_network.mk (S_api_Net.mk 0 []) [] [] []),50))
else(
(zeR 8 (p0.nodes.length:Int) 0).bind λy5=>
((zb4 p0 ((p0.nodes.length:Int) - 0+2:Int).toNat 1 0 y5:Option (Out (Int×(List Int)) (S_net_network×Int)))).bind λo=>match o with
| .go (v5,l2)=>(
bif (decide (1024<v5))then(
some ((S_net_network.mk (S_api_Net.mk 0 []) [] [] []),50))
else(
((zb5 p0 l2 ((p0.nodes.length:Int) - 0+2:Int).toNat 0 y5:Option (Out (List Int) (S_net_network×Int)))).bind λo=>match o with
| .go l3=>(
(zcy l3).bind λr35=>
bif r35.2 then(
some ((S_net_network.mk p0 l2 l3 r35.1),0))
else(
some ((S_net_network.mk (S_api_Net.mk 0 []) [] [] []),50)))
| .ret r=>some r))
| .ret r=>some r)
theorem zjR{p0:S_api_Net}{r:(S_net_network×Int)}(h:zdu p0=some r):Lx.FnA mC 59 [(.agg [(dI p0.grain),(fzE false zaa p0.nodes)])] (.tup [(.agg [(dI r.1.net.grain),(fzE false zaa r.1.net.nodes),(fzE false (eI .i64) r.1.zah),(fzE false (eI .u64) r.1.sets),(fzE false (eI .i64) r.1.order)]),(dI r.2)]):=by
 refine zz4 ?_;unfold zdu at h;refine wSM ?_;obtain⟨o1,j1,h⟩:=bsM h;refine usM [1,2] 2 (λa:Bool=>([(34,(dB a))],[],[])) λT1 hT1=>?_
 refine EvL.jn T1 _ (bJM j1 hT1) ?_;rintro v34 rfl;refine wTM hT1 ?_;refine cBM h (λ_ h=>?_) λ_ h=>?_
 .obtain⟨y5,g6,h⟩:=bsM h;refine sXM (anM ((zaD g6).1.1) (anM ((zaD g6).1.2) (anM @qbS (anM (miM g6) (muM g6))))) ?_;obtain⟨o5,j5,h⟩:=bsM h;obtain⟨T5,hT5⟩:=zcC hT1 λa:(Int×(List Int))=>uKM (T1 v34) [2] [(4,(.ptr 4 0)),(5,(dI a.1))] [(0,.gone)] [.els 1 (a.2.map ((eI .i64).c true)),.els 1 (y5.map ((eI .u64).c true)),.cells [(dI p0.grain),(fzE false zaa p0.nodes),(.sl 2 0 1 (Int.toNat (p0.nodes.length:Int)) (some (Int.toNat (p0.nodes.length:Int))) (Int.toNat (p0.nodes.length:Int))),(.sl 3 0 1 (Int.toNat (p0.nodes.length:Int)) (some (Int.toNat (p0.nodes.length:Int))) (Int.toNat (p0.nodes.length:Int))),zez]]
  refine EvL.jn T5 (λa=>o5=.go a/\a.2.length=(Int.toNat (p0.nodes.length:Int))) ?_ ?_
  .refine wSM ?_;obtain⟨T8,hT8⟩:=zcC hT1 λa:(Int×Int×(List Int))=>uKM (T1 v34) [2] [(4,(.ptr 4 0)),(5,(dI a.1)),(48,(fzE false zaa p0.nodes)),(49,(dI (p0.nodes.length:Int))),(50,(dI a.2.1))] [(0,.gone)] [.els 1 (a.2.2.map ((eI .i64).c true)),.els 1 (y5.map ((eI .u64).c true)),.cells [(dI p0.grain),(fzE false zaa p0.nodes),(.sl 2 0 1 (Int.toNat (p0.nodes.length:Int)) (some (Int.toNat (p0.nodes.length:Int))) (Int.toNat (p0.nodes.length:Int))),(.sl 3 0 1 (Int.toNat (p0.nodes.length:Int)) (some (Int.toNat (p0.nodes.length:Int))) (Int.toNat (p0.nodes.length:Int))),zez]]
   refine rdM hT8 (λn a=>zb4 p0 n a.1 a.2.1 a.2.2=some o5/\a.2.2.length=(Int.toNat (p0.nodes.length:Int))) (1,0,y5) ⟨j5,zbC g6⟩ ?_;rintro n ⟨v5,v50,l2⟩ ⟨j5,el2⟩;simp only[zb4]at j5;refine wTM hT8 ?_;refine cBM j5 (λ_ j5=>?_) λ_ j5=>?_
   .obtain rfl:=qae j5;exact zcr hT5 _ ⟨rfl,el2⟩
   obtain⟨x8,g9,j5⟩:=bsM j5;refine sXM (anM @zak (zaq (n:=3) (e:=zaa) rfl g9)) ?_;obtain⟨o9,j9,j5⟩:=bsM j5;obtain⟨T9,hT9⟩:=zcC hT8 λa:Bool=>uDM (T8 (v5,v50,l2)) [] [(6,(dI v50)),(7,(.ptr 5 0)),(62,(dB a))] [] [.cells [(dI x8.zaF),(fzE false (eI .i64) x8.parents),(fzE false (eL (eI .i64)) x8.rows)]]
   refine EvL.jn T9 _ (bJM j9 hT9) ?_;rintro v62 rfl;refine wTM hT9 ?_;refine cBM j5 (λ_ j5=>?_) λ_ j5=>?_
   .obtain⟨x12,g13,y14,g15,j5⟩:=zfo j5;refine sXM (anM el2 (anM (zaZ g13) (anM (ltM el2 g13) (anM (giM g13) (siM g15))))) ?_;exact zcr hT8 ((w64 (v5 * x8.zaF)),(w64 (v50+1)),y14) ⟨j5,(zaX g15).trans el2⟩
   obtain rfl:=qae j5;exact rHM h
  rintro⟨v5,l2⟩ ⟨rfl,el2⟩;dsimp only at h;refine wTM hT5 ?_;refine cBM h (λ_ h=>?_) λ_ h=>?_
  .obtain⟨o34,j34,h⟩:=bsM h;obtain⟨T34,hT34⟩:=zcC hT5 λa:(List Int)=>uDM (T5 (v5,l2)) [5] [] [(3,.els 1 (a.map ((eI .u64).c true)))] []
   refine EvL.jn T34 (λa=>o34=.go a/\a.length=(Int.toNat (p0.nodes.length:Int))) ?_ ?_
   .refine wSM ?_;obtain⟨T51,hT51⟩:=zcC hT5 λa:(Int×(List Int))=>uDM (T5 (v5,l2)) [5] [(80,(fzE false zaa p0.nodes)),(81,(dI (p0.nodes.length:Int))),(82,(dI a.1))] [(3,.els 1 (a.2.map ((eI .u64).c true)))] []
    refine rdM hT51 (λn a=>zb5 p0 l2 n a.1 a.2=some o34/\a.2.length=(Int.toNat (p0.nodes.length:Int))) (0,y5) ⟨j34,zbC g6⟩ ?_;rintro n ⟨v82,l3⟩ ⟨j34,el3⟩;simp only[zb5]at j34;refine wTM hT51 ?_;refine cBM j34 (λ_ j34=>?_) λ_ j34=>?_
    .obtain rfl:=qae j34;exact zcr hT34 _ ⟨rfl,el3⟩
    obtain⟨x18,g19,j34⟩:=bsM j34;refine sXM (anM @zak (zaq (n:=3) (e:=zaa) rfl g19)) ?_;obtain⟨o55,j55,j34⟩:=bsM j34;obtain⟨T55,hT55⟩:=zcC hT51 λa:(List Int)=>uDM (T51 (v82,l3)) [] [(9,(.ptr 5 0))] [(3,.els 1 (a.map ((eI .u64).c true)))] [.cells [(dI x18.zaF),(fzE false (eI .i64) x18.parents),(fzE false (eL (eI .i64)) x18.rows)]]
    refine EvL.jn T55 (λa=>o55=.go a/\a.length=(Int.toNat (p0.nodes.length:Int))) ?_ ?_
    .refine wSM ?_;obtain⟨T58,hT58⟩:=zcC hT51 λa:(Int×Int×(List Int))=>uDM (T51 (v82,l3)) [] [(8,(dI v82)),(9,(.ptr 5 0)),(10,(dI a.1)),(88,(fzE false (eI .i64) x18.parents)),(89,(dI (x18.parents.length:Int))),(90,(dI a.2.1))] [(3,.els 1 (a.2.2.map ((eI .u64).c true)))] [.cells [(dI x18.zaF),(fzE false (eI .i64) x18.parents),(fzE false (eL (eI .i64)) x18.rows)]]
     refine rdM hT58 (λn a=>zcE x18 p0 v82 n a.1 a.2.1 a.2.2=some o55/\a.2.2.length=(Int.toNat (p0.nodes.length:Int))) ((-1),0,l3) ⟨j55,el3⟩ ?_;rintro n ⟨v10,v90,l3'⟩ ⟨j55,el3'⟩;simp only[zcE]at j55;refine wTM hT58 ?_;refine cBM j55 (λ_ j55=>?_) λ_ j55=>?_
     .obtain rfl:=qae j55;exact zcr hT55 _ ⟨rfl,el3'⟩
     obtain⟨x21,g22,j55⟩:=bsM j55;refine sXM (ixM g22) ?_;obtain⟨o59,j59,j55⟩:=bsM j55;obtain⟨T59,hT59⟩:=zcC hT58 λa:Bool=>uDM (T58 (v10,v90,l3')) [10] [(12,(dI x21)),(109,(dB a))] [] []
     refine EvL.jn T59 _ (bJM j59 hT59) ?_;rintro v109 rfl;refine wTM hT59 ?_;refine cBM j55 (λ_ j55=>?_) λ_ j55=>?_
     .obtain⟨x26,g27,q28,g29,y30,g31,j55⟩:=zhx j55;refine sXM (anM el3' (anM (zaZ g27) (anM (ltM el3' g27) (anM (guM g27) (anM ((zby g29).1) (anM ((zby g29).2) (suM g31))))))) ?_;exact zcr hT58 (x21,(w64 (v90+1)),y30) ⟨j55,(zaX g31).trans el3'⟩
     obtain rfl:=qae j55;obtain rfl:=qae j34;exact rHM h
    rintro l3' ⟨rfl,el3'⟩;dsimp only at j34;refine wTM hT55 ?_;obtain⟨r32,g33,j34⟩:=bsM j34;refine sSM ?_;refine fCM (zgG g33) ?_;refine cBM j34 (λ_ j34=>?_) λ_ j34=>?_
    .obtain rfl:=qae j34;exact rHM h
    exact zcr hT51 ((w64 (v82+1)),l3') ⟨j34,el3'⟩
   rintro l3 ⟨rfl,el3⟩;dsimp only at h;refine wTM hT34 ?_;obtain⟨r35,g36,h⟩:=bsM h;refine sSM ?_;refine fCM (zmD g36) ?_;refine cBM h (λ_ h=>?_) λ_ h=>?_
   .exact rHM h
   exact rHM h
  exact rHM h
 exact rHM h
def za2(p1:(List Int))(p0:S_api_Net):Nat->Int->Option (Out Unit Bool)
 | 0,_=>none
 | n+1,v5=>(
bif (decide (v5<(p1.length:Int)))then(
(((zaE p1 v5).bind λx3=>
bif (decide (x3<(-1)))then(
some true)
else(
(zaE p0.nodes v5).bind λx6=>
some (decide (x6.zaF<=x3))):Option Bool)).bind λv35=>
bif v35 then(
some (.ret false))
else(
za2 p1 p0 n (w64 (v5+1))))
else(
some (.go ())))
def zce(p0:S_api_Net)(p1:(List Int)):Option Bool:=
bif ((p1.length:Int)==(p0.nodes.length:Int))then(
((za2 p1 p0 ((p1.length:Int) - 0+2:Int).toNat 0:Option (Out Unit Bool))).bind λo=>match o with
| .go _=>(
some true)
| .ret r=>some r)
else(
some false)
theorem zkt{p0:S_api_Net}{p1:(List Int)}(h:zce p0 p1=some r):Lx.Fn mC 57 [(.agg [(dI p0.grain),(fzE false zaa p0.nodes)]),(fzE false (eI .i64) p1)] (dB r):=by
 refine gnO ?_;unfold zce at h;refine wSM ?_;refine cBM h (λ_ h=>?_) λ_ h=>?_
 .exact rHM h
 obtain⟨o4,j4,h⟩:=bsM h;refine usM [] 0 (λa:Unit=>([],[],[])) λT4 hT4=>?_
 refine EvL.jn T4 (λa=>o4=.go a) ?_ ?_
 .refine wSM ?_;refine usM [1,2] 1 (λa:Int=>([(5,(dI a))],[],[])) λT7 hT7=>?_
  refine rdM hT7 (λn a=>za2 p1 p0 n a=some o4) 0 j4 ?_;rintro n v5 j4;simp only[za2]at j4;refine wTM hT7 ?_;refine cBM j4 (λ_ j4=>?_) λ_ j4=>?_
  .exact zk6 j4 hT4
  obtain⟨o8,j8,j4⟩:=bsM j4;obtain⟨T8,hT8⟩:=zcC hT7 λa:Bool=>uDM (T7 v5) [] [(35,(dB a))] [] []
  refine EvL.jn T8 (λa=>a=o8) ?_ ?_
  .refine zad ?_;obtain⟨x3,g4,j8⟩:=bsM j8;refine sXM (ixM g4) ?_;refine cBM j8 (λ_ j8=>?_) λ_ j8=>?_
   .obtain⟨x6,g7,j8⟩:=bsM j8;refine sXM (anM @zak (anM (ixM g4) (zaq (n:=3) (e:=zaa) rfl g7))) ?_;exact zch j8 hT8
   exact zch j8 hT8
  rintro v35 rfl;refine wTM hT8 ?_;refine cBM j4 (λ_ j4=>?_) λ_ j4=>?_
  .exact zcr hT7 (w64 (v5+1)) j4
  obtain rfl:=qae j4;exact rHM h
 rintro⟨⟩ rfl;dsimp only at h;refine wTM hT4 ?_;exact rHM h
def zd2(p0:Int):Option Bool:=
some false
theorem zgf{p0:Int}(h:zd2 p0=some r):Lx.Fn mC 140 [(dI p0)] (dB r):=by
 refine gnO ?_;unfold zd2 at h;refine wSM ?_;exact rHM h
def zev(p0:Int)(p1:Int):Option Bool:=
(((zd2 p0).bind λr1=>
bif r1 then(
(zd2 p1).bind λr4=>
bif r4 then(
some (decide (p0<p1)))
else(
some true))
else(
some (decide (p0<p1))):Option Bool)).bind λv4=>
some v4
theorem zkm{p0:Int}{p1:Int}(h:zev p0 p1=some r):Lx.Fn mC 134 [(dI p0),(dI p1)] (dB r):=by
 refine gnO ?_;unfold zev at h;refine wSM ?_;obtain⟨o1,j1,h⟩:=bsM h;refine usM [] 0 (λa:Bool=>([(4,(dB a))],[],[])) λT1 hT1=>?_
 refine EvL.jn T1 (λa=>a=o1) ?_ ?_
 .refine zad ?_;obtain⟨r1,g2,j1⟩:=bsM j1;refine sSM ?_;refine fCM (zgf g2) ?_;refine cBM j1 (λ_ j1=>?_) λ_ j1=>?_
  .refine EvL.skip rfl ?_;refine sSM ?_;exact zch j1 hT1
  obtain⟨r4,g5,j1⟩:=bsM j1;refine sSM ?_;refine fCM (zgf g5) ?_;refine cBM j1 (λ_ j1=>?_) λ_ j1=>?_
  .exact zch j1 hT1
  exact zch j1 hT1
 rintro v4 rfl;refine wTM hT1 ?_;exact rHM h
def zcd(p0:Int):Option Bool:=
some false
theorem zfa{p0:Int}(h:zcd p0=some r):Lx.Fn mC 135 [(dI p0)] (dB r):=by
 refine gnO ?_;unfold zcd at h;refine wSM ?_;exact rHM h
def zax(p0:(List Int))(p1:Int):Nat->Int->Int->Option Int
 | 0,_,_=>none
 | n+1,v7,v8=>(
bif (decide (v7<v8))then(
(zku .u64 (IntKind.u64.wrap (w64 (v7+v8))) 1).bind λq2=>
(zaE p0 (w64 q2)).bind λx4=>
(zev x4 p1).bind λr6=>
bif r6 then(
zax p0 p1 n (w64 ((w64 q2)+1)) v8)
else(
zax p0 p1 n v7 (w64 q2)))
else(
some v7))
def zaT(p0:(List Int))(p1:Int):Option (Int×Bool):=
((zax p0 p1 ((p0.length:Int) - 0+2:Int).toNat 0 (p0.length:Int):Option Int)).bind λv7=>
((bif (decide (v7<(p0.length:Int)))then(
(zaE p0 v7).bind λx10=>
bif (x10 == p1)then(
some true)
else(
(zcd x10).bind λr13=>
bif r13 then(
(zcd p1).bind λr16=>
some r16)
else(
some false)))
else(
some false):Option Bool)).bind λv5=>
some (v7,v5)
theorem zeC{p1:Int}{r:(Int×Bool)}(h:zaT p0 p1=some r):Lx.Fn mC 122 [(fzE false (eI .i64) p0),(dI p1)] (.tup [(dI r.1),(dB r.2)]):=by
 refine gnO ?_;unfold zaT at h;refine wSM ?_;obtain⟨o1,j1,h⟩:=bsM h;refine usM [0,1,6] 0 (λa:Int=>([(7,(dI a))],[],[])) λT1 hT1=>?_
 refine EvL.jn T1 (λa=>a=o1) ?_ ?_
 .refine wSM ?_;refine usM [0,1,6] 0 (λa:(Int×Int)=>([(7,(dI a.1)),(8,(dI a.2))],[],[])) λT2 hT2=>?_
  refine rdM hT2 (λn a=>zax p0 p1 n a.1 a.2=some o1) (0,(p0.length:Int)) j1 ?_;rintro n ⟨v7,v8⟩ j1;simp only[zax]at j1;refine wTM hT2 ?_;cases c1:(decide (v7<v8))
  .rw[c1,qdu]at j1;refine sSM ?_;replace j1:=qae j1; subst j1;exact lfj hT1 rfl (wm0 [] (by exact trivial))
  rw[c1,qdt]at j1;obtain⟨q2,g3,x4,g5,r6,g7,j1⟩:=zhx j1;try simp only[rnA,Nat.reduceEqDiff,Nat.reduceLT,reduceCtorEq,(zbA g3).1,(zbA g3).2,zaq (n:=1) (e:=(eI .i64)) rfl g5]
  refine EvL.fn (zkm g7) rfl rfl (.cons (.lit _) (.cons (.lit _) .nil)) ?_;refine sSM ?_;refine cBM j1 (λ_ j1=>?_) λ_ j1=>?_
  .exact zcr hT2 (v7,(w64 q2)) j1
  exact zcr hT2 ((w64 ((w64 q2)+1)),v8) j1
 rintro v7 rfl;refine wTM hT1 ?_;obtain⟨o3,j3,h⟩:=bsM h;refine usM [] 0 (λa:Bool=>([(4,(dI v7)),(5,(dB a))],[],[])) λT3 hT3=>?_
 refine EvL.jn T3 (λa=>a=o3) ?_ ?_
 .refine wSM ?_;refine cBM j3 (λ_ j3=>?_) λ_ j3=>?_
  .refine EvL.skip rfl ?_;refine sSM ?_;refine EvL.skip rfl ?_;refine sSM ?_;obtain rfl:=qae j3;exact zcr hT3 _ rfl
  obtain⟨x10,g11,j3⟩:=bsM j3;refine sXM (ixM g11) ?_;refine cBM j3 (λ_ j3=>?_) λ_ j3=>?_
  .obtain⟨r13,g14,j3⟩:=bsM j3;refine sXM (ixM g11) ?_;refine fCM (zfa g14) ?_;refine cBM j3 (λ_ j3=>?_) λ_ j3=>?_
   .refine EvL.skip rfl ?_;refine sSM ?_;exact zch j3 hT3
   obtain⟨r16,g17,j3⟩:=bsM j3;refine sSM ?_;refine fCM (zfa g17) ?_;exact zch j3 hT3
  refine EvL.skip rfl ?_;refine sSM ?_;refine EvL.skip rfl ?_;refine sSM ?_;exact zch j3 hT3
 rintro v5 rfl;refine wTM hT3 ?_;exact rHM h
def za4(y7:(List Int))(p0:S_net_network)(r3:(Int×Bool)):Nat->Int->Int->(List Int)->Option (Int×(List Int))
 | 0,_,_,_=>none
 | n+1,v40,b6_0,l7=>(
bif (decide (v40<((y7.length:Nat):Int)))then(
(zaE y7 v40).bind λx10=>
(zaE p0.zah x10).bind λx12=>
(zcX 8 l7 [x12]).bind λy14=>
((bif (decide (r3.1<v40))then(
some (w64 (b6_0 * x12)))
else(
some b6_0):Option Int)).bind λb6_0'=>
za4 y7 p0 r3 n (w64 (v40+1)) b6_0' y14)
else(
some (b6_0,l7)))
def za3(y23:(Int×(List Int)))(b6_0:Int)(x1:S_api_Node):Nat->Int->(List Int)->Option (List Int)
 | 0,_,_=>none
 | n+1,v80,l8'=>(
bif (decide (v80<(y23.2.length:Int)))then(
(zaE y23.2 v80).bind λx25=>
(zts .i64 y23.1 b6_0).bind λq27=>
(zrc y23.1 b6_0).bind λq29=>
(zaE l8' (w64 ((w64 ((w64 ((w64 (q27 * x1.zaF))+v80))* b6_0))+q29))).bind λx31=>
(zfl l8' (w64 ((w64 ((w64 ((w64 (q27 * x1.zaF))+v80))* b6_0))+q29)) x25).bind λy33=>
za3 y23 b6_0 x1 n (w64 (v80+1)) y33)
else(
some l8'))
def za1(b6_0:Int)(x1:S_api_Node):List (Int×(List Int))->(List Int)->Option (List Int)
 | [],l8=>some l8
 | y23 :: ys,l8=>(
((za3 y23 b6_0 x1 ((y23.2.length:Int) - 0+2:Int).toNat 0 l8:Option (List Int))).bind λl8'=>
za1 b6_0 x1 ys l8')
def zbP(p0:S_net_network)(p1:Int):Option S_api_Factor:=
(zaE p0.net.nodes p1).bind λx1=>
(zaT x1.parents p1).bind λr3=>
(zeB 8 x1.parents).bind λy5=>
(zAW 8 y5 r3.1 [p1]).bind λy7=>
((za4 y7 p0 r3 (((y7.length:Nat):Int) - 0+2:Int).toNat 0 1 []:Option ((Int×(List Int))))).bind λo=>match o with
|(b6_0,l7)=>(
(zeR 8 (w64 ((x1.rows.length:Int)* x1.zaF)) 0).bind λy17=>
(ze5 x1).bind λr19=>
(zeT r19.rows).bind λu21=>
((za1 b6_0 x1 (zro r19.rows) y17:Option (List Int))).bind λl8=>
some (S_api_Factor.mk y7 l7 l8))
theorem zgF{p0:S_net_network}{p1:Int}{r:S_api_Factor}(h:zbP p0 p1=some r):Lx.Fn mC 104 [(.agg [(dI p0.net.grain),(fzE false zaa p0.net.nodes),(fzE false (eI .i64) p0.zah),(fzE false (eI .u64) p0.sets),(fzE false (eI .i64) p0.order)]),(dI p1)] (.agg [(fzE true (eI .i64) r.vars),(fzE true (eI .i64) r.zah),(fzE true (eI .i64) r.w)]):=by
 refine gnO ?_;unfold zbP at h;refine zad ?_;obtain⟨x1,g2,r3,g4,h⟩:=zfo h;refine sXM (anM @zak (zaq (n:=3) (e:=zaa) rfl g2)) ?_;refine fCM (zeC g4) ?_;obtain⟨y5,g6,h⟩:=bsM h;refine sSM ?_;refine EvL.clone (t:=false) (zs:=x1.parents) g6 rfl rfl ?_;obtain⟨y7,g8,h⟩:=bsM h;refine sSM ?_;refine EvL.insert (zs:=y5) (t:=true) (us:=[p1]) (t2:=true) g8 rfl rfl rfl rfl rfl rfl rfl rfl rfl ?_;refine sSM ?_;obtain⟨o5,j5,h⟩:=bsM h;refine usM [4,5,8,9] 7 (λa:(Int×(List Int))=>([],[(0,.gone),(4,.gone),(5,.cells [(.sl 3 0 1 y7.length none y7.length),(.sl 7 0 1 a.2.length none a.2.length),zez]),(6,.cells [(dI a.1)])],[.grow 1 (a.2.map ((eI .i64).c true))])) λT5 hT5=>?_
 refine EvL.jn T5 (λa=>a=o5) ?_ ?_
 .refine wSM ?_;refine usM [2,4,5,6,8,9,38,39] 7 (λa:(Int×Int×(List Int))=>([(40,(dI a.1))],[(4,.gone),(5,.cells [(.sl 3 0 1 y7.length none y7.length),(.sl 7 0 1 a.2.2.length none a.2.2.length),zez]),(6,.cells [(dI a.2.1)])],[.grow 1 (a.2.2.map ((eI .i64).c true))])) λT9 hT9=>?_
  refine EvL.zgd (za8.zo4 (n:=1) (β:=5) (o:=1) (by decide) rfl rfl) ?_;refine EvL.rounds (α:=(Int×Int×(List Int))) T9 (λn a=>za4 y7 p0 r3 n a.1 a.2.1 a.2.2=some o5) (((y7.length:Nat):Int) - 0+2:Int).toNat (0,1,[]) (by rw[hT9]; exact wm0 [.k,.k,.k,.k,.d,.k,.k,.k] ⟨MB.cs ⟨qds,qds,qds,qds,qds,qds⟩,⟨MB.cs ⟨qds,qds,qds,qds⟩,⟨MB.cs ⟨qds,qds,qds,qds⟩,⟨MB.es (eI .i64) true y7,⟨rfl,⟨MB.cs ⟨rfl,rfl,qds,qds⟩,⟨MB.cs ⟨qds,qds⟩,⟨MB.gs (eI .i64) true [],qds⟩⟩⟩⟩⟩⟩⟩⟩) j5 (λ_ h=>nomatch (show(none:Option (Int×(List Int)))=some o5 from h)) ?_;rintro n ⟨v40,b6_0,l7⟩ j5;simp only[za4]at j5;refine wTM hT9 ?_;refine cBM j5 (λ_ j5=>?_) λ_ j5=>?_
  .exact zch j5 hT5
  obtain⟨x10,g11,x12,g13,y14,g15,j5⟩:=zhx j5;refine sXM (anM (zaZ g11) (anM (show v40<((y7.length:Nat):Int)from zd6 g11) (anM (giM g11) (anM (ixM g13) (anM (zbz g15) (anM (plM g15) (piM g15))))))) ?_;obtain⟨o10,j10,j5⟩:=bsM j5;obtain⟨T10,hT10⟩:=zcC hT9 λa:Int=>uDM (T9 (v40,b6_0,l7)) [] [] [(5,.cells [(.sl 3 0 1 y7.length none y7.length),(.sl 7 0 1 y14.length none y14.length),zez]),(6,.cells [(dI a)]),(7,.grow 1 (y14.map ((eI .i64).c true)))] []
  refine EvL.jn T10 (λa=>a=o10) ?_ ?_
  .refine wSM ?_;refine cBM j10 (λ_ j10=>?_) λ_ j10=>?_
   .exact zch j10 hT10
   refine sXM (ixM g13) ?_;exact zch j10 hT10
  rintro b6_0' rfl;refine wTM hT10 ?_;exact zcr hT9 ((w64 (v40+1)),b6_0',y14) j5
 rintro⟨b6_0,l7⟩ rfl;dsimp only at h;refine wTM hT5 ?_;obtain⟨y17,g18,r19,g20,h⟩:=zfo h;refine sXM (anM ((zaD g18).1.1) (anM ((zaD g18).1.2) (anM @qbS (miM g18)))) ?_;refine fDM (zjT g20) ?_;refine sXM @zak ?_;obtain⟨u21,g22,o15,j15,h⟩:=zfo h;obtain⟨T15,hM15⟩:∃ T:(List Int)->List LB,T=(λa=>[.gone,.cells [zez,zez,zez],.cells [(dI x1.zaF),(fzE false (eI .i64) x1.parents),(fzE false (eL (eI .i64)) x1.rows)],.els 1 (y7.map ((eI .i64).c true)),.gone,.cells [(.sl 3 0 1 y7.length none y7.length),(.sl 7 0 1 l7.length none l7.length),(.sl 8 0 1 (Int.toNat (w64 ((x1.rows.length:Int)* x1.zaF))) (some (Int.toNat (w64 ((x1.rows.length:Int)* x1.zaF)))) (Int.toNat (w64 ((x1.rows.length:Int)* x1.zaF))))],.cells [(dI b6_0)],.grow 1 (l7.map ((eI .i64).c true)),.els 1 (a.map ((eI .i64).c true))]):=⟨_,rfl⟩;refine EvL.zgd (S':=⟨105,[(4,(.ptr 1 0)),(5,(.ptr 2 0)),(8,(.ptr 5 0)),(9,(.ptr 6 0)),(75,(.clo 129 [] [(.fptr false (zaa.c false r19))]))],T15 y17⟩) (by rw[hM15]; exact wm0 [.k,.k,.k,.k,.k,.k,.k,.k,.k] ⟨MB.same trivial,⟨MB.cs ⟨qds,qds,qds,qds⟩,⟨MB.cs ⟨qds,qds,qds,qds⟩,⟨MB.es (eI .i64) true y7,⟨MB.same trivial,⟨MB.cs ⟨rfl,rfl,rfl,qds⟩,⟨MB.cs ⟨qds,qds⟩,⟨MB.gs (eI .i64) true l7,⟨MB.es (eI .i64) true y17,qds⟩⟩⟩⟩⟩⟩⟩⟩⟩) ?_;refine EvL.zhd (n0:=9) (zi7 r19 g22) rfl (bm:=.block 3 (.seq (.reg false false [⟨some 78,.mov (.s 13),none⟩,⟨some 79,.len (.s 78),none⟩,⟨some 80,.mov (.c (.int .i64 0)),none⟩]) (.scope (.block 4 (.loop (.seq (.reg false false [⟨some 81,.bin .lss (.s 80) (.s 79),none⟩]) (.seq (.cond (.s 81) (.skip) (.exit 4)) (.seq (.block 5 (.seq (.reg false false [⟨some 82,.mov (.s 80),none⟩,⟨some 83,.idxS 1 (.s 78) (.s 80),none⟩,⟨some 84,.load none (.s 83),none⟩,⟨some 14,.mov (.s 82),none⟩,⟨some 15,.mov (.s 84),none⟩]) (.reg true false [⟨some 85,.fld 2 (.s 8),none⟩,⟨some 86,.load none (.s 85),none⟩,⟨some 87,.mov (.s 12),none⟩,⟨some 88,.load none (.s 9),none⟩,⟨some 89,.bin .quo (.s 87) (.s 88),none⟩,⟨some 90,.fld 0 (.s 5),none⟩,⟨some 91,.load none (.s 90),none⟩,⟨some 92,.bin .mul (.s 89) (.s 91),none⟩,⟨some 93,.mov (.s 14),none⟩,⟨some 94,.bin .add (.s 92) (.s 93),none⟩,⟨some 95,.load none (.s 9),none⟩,⟨some 96,.bin .mul (.s 94) (.s 95),none⟩,⟨some 97,.mov (.s 12),none⟩,⟨some 98,.load none (.s 9),none⟩,⟨some 99,.bin .rem (.s 97) (.s 98),none⟩,⟨some 100,.bin .add (.s 96) (.s 99),none⟩,⟨some 101,.mov (.s 15),none⟩,⟨some 102,.idxS 1 (.s 86) (.s 100),none⟩,⟨none,.store 1 (.s 102) (.s 101),none⟩]))) (.reg false false [⟨some 103,.bin .add (.s 80) (.c (.int .i64 1)),none⟩,⟨some 80,.mov (.s 103),none⟩]))))))))) rfl T15 (λi a=>za1 b6_0 x1 ((zro r19.rows).drop i) a=some o15/\a.length=(Int.toNat (w64 ((x1.rows.length:Int)* x1.zaF)))) (λx L1=>match x with | .normal=>∃ a,o15=a/\a.length=(Int.toNat (w64 ((x1.rows.length:Int)* x1.zaF)))/\L1=T15 a | .ret=>L1.length=9/\zdw (9+1) L1/\(zje [.cell 4 (some 3)] ((.agg [(fzE true (eI .i64) r.vars),(fzE true (eI .i64) r.zah),(fzE true (eI .i64) r.w)]))) .ret ⟨105,[(4,(.ptr 1 0)),(5,(.ptr 2 0)),(8,(.ptr 5 0)),(9,(.ptr 6 0)),(75,(.clo 129 [] [(.fptr false (zaa.c false r19))]))],L1 ++ [.lost]⟩| _=>False) y17 ?_ (qar _) ?_ ?_ ?_ (λd L1 hx=>hx.elim) ?_ ?_ ?_ ?_ ?_ ?_
 .intro a; rw[hM15]; rfl
 .exact⟨(qad rfl),(qad rfl),(qad rfl),(qad rfl),⟨qds,⟨qds,qds⟩⟩,qds⟩
 .intro a; rw[hM15]; exact⟨qds,⟨qds,qds,qds,qds⟩,⟨qds,qds,qds,qds⟩,(zea (eI .i64) _ _ _),qds,⟨(qad rfl),(qad rfl),(qad rfl),qds⟩,⟨qds,qds⟩,(zea (eI .i64) _ _ _),(zea (eI .i64) _ _ _),qds⟩
 .intro x L1 hx;cases x with
  | normal=>obtain⟨a,_,_,rfl⟩:=hx; exact⟨by rw[hM15]; rfl,by rw[hM15]; exact⟨qds,⟨qds,qds,qds,qds⟩,⟨qds,qds,qds,qds⟩,(zea (eI .i64) _ _ _),qds,⟨(qad rfl),(qad rfl),(qad rfl),qds⟩,⟨qds,qds⟩,(zea (eI .i64) _ _ _),(zea (eI .i64) _ _ _),qds⟩⟩
  | ret=>exact⟨hx.1,hx.2.1⟩
  | exit id=>exact hx.elim
  | panic d=>exact hx.elim
 .exact⟨j15,zbC g18⟩
 .rintro i l8 y23 args G lpF hy ⟨hi15,el8⟩ ⟨rfl,rfl⟩ hkin;rw[zf4 hy]at hi15;simp only[za1]at hi15;refine⟨_,_,rfl,rfl,?_⟩;rw[congrFun hM15 l8];refine zad ?_;refine sXM @zak ?_;obtain⟨o16,j16,hi15⟩:=bsM hi15;refine usM [] 10 (λa:(List Int)=>([],[(8,.els 1 (a.map ((eI .i64).c true)))],[])) λT16 hT16=>?_
  refine EvL.jn T16 (λa=>a=o16/\a.length=(Int.toNat (w64 ((x1.rows.length:Int)* x1.zaF)))) ?_ ?_
  .refine wSM ?_;refine usM [5,8,9,12,78,79] 10 (λa:(Int×(List Int))=>([(80,(dI a.1))],[(8,.els 1 (a.2.map ((eI .i64).c true)))],[])) λT17 hT17=>?_
   refine EvL.rounds (α:=(Int×(List Int))) T17 (λn a=>za3 y23 b6_0 x1 n a.1 a.2=some o16/\a.2.length=(Int.toNat (w64 ((x1.rows.length:Int)* x1.zaF)))) ((y23.2.length:Int) - 0+2:Int).toNat (0,l8) (by rw[hT17]; exact za8.mK (k0:=10) [.k,.k,.k,.k,.k,.k,.k,.k,.k,.k] rfl rfl (msq (msq (msq (msq (msq (msq (msq trivial))))))) ⟨MB.same trivial,⟨MB.cs ⟨qds,qds,qds,qds⟩,⟨MB.cs ⟨qds,qds,qds,qds⟩,⟨MB.es (eI .i64) true y7,⟨MB.same trivial,⟨MB.cs ⟨rfl,rfl,rfl,qds⟩,⟨MB.cs ⟨qds,qds⟩,⟨MB.gs (eI .i64) true l7,⟨MB.es (eI .i64) true l8,⟨.same (hkin _ (by decide)),qds⟩⟩⟩⟩⟩⟩⟩⟩⟩⟩) ⟨j16,el8⟩ (λ_ h=>nomatch (show(none:Option (List Int))=some o16 from h.1)) ?_;rintro n ⟨v80,l8'⟩ ⟨j16,el8'⟩;simp only[za3]at j16;refine wTM hT17 ?_;refine cBM j16 (λ_ j16=>?_) λ_ j16=>?_
   .obtain rfl:=qae j16;exact⟨_,⟨rfl,el8'⟩,by rw[hT16]; exact za8.mK (k0:=10) [.k,.k,.k,.k,.k,.k,.k,.k,.k,.k] rfl rfl qds ⟨MB.same trivial,⟨MB.cs ⟨qds,qds,qds,qds⟩,⟨MB.cs ⟨qds,qds,qds,qds⟩,⟨MB.es (eI .i64) true y7,⟨MB.same trivial,⟨MB.cs ⟨rfl,rfl,rfl,qds⟩,⟨MB.cs ⟨qds,qds⟩,⟨MB.gs (eI .i64) true l7,⟨MB.es (eI .i64) true l8',⟨.same (hkin _ (by decide)),qds⟩⟩⟩⟩⟩⟩⟩⟩⟩⟩⟩
   obtain⟨x25,g26,q27,g28,q29,g30,j16⟩:=zhx j16;obtain⟨x31,g32,y33,g34,j16⟩:=zfo j16;refine sXM (anM (ixM g26) (anM (zqZ g28) (anM (zpP g28) (anM (ziJ g30) (anM el8' (anM (zaZ g32) (anM (ltM el8' g32) (anM (giM g32) (siM g34))))))))) ?_;exact⟨((w64 (v80+1)),y33),⟨j16,(zaX g34).trans el8'⟩,by rw[hT17]; exact za8.mK (k0:=10) [.k,.k,.k,.k,.k,.k,.k,.k,.k,.k] rfl rfl (msq (msq (msq (msq (msq (msq (msq trivial))))))) ⟨MB.same trivial,⟨MB.cs ⟨qds,qds,qds,qds⟩,⟨MB.cs ⟨qds,qds,qds,qds⟩,⟨MB.es (eI .i64) true y7,⟨MB.same trivial,⟨MB.cs ⟨rfl,rfl,rfl,qds⟩,⟨MB.cs ⟨qds,qds⟩,⟨MB.gs (eI .i64) true l7,⟨MB.es (eI .i64) true y33,⟨.same (hkin _ (by decide)),qds⟩⟩⟩⟩⟩⟩⟩⟩⟩⟩⟩
  rintro l8' ⟨rfl,el8'⟩;refine wTM hT16 ?_;exact⟨T15 l8',by rw[hM15]; rfl,by rw[hM15]; exact za8.mK [.k,.k,.k,.k,.k,.k,.k,.k,.k,.k] rfl rfl qds ⟨MB.same trivial,⟨MB.cs ⟨qds,qds,qds,qds⟩,⟨MB.cs ⟨qds,qds,qds,qds⟩,⟨MB.es (eI .i64) true y7,⟨MB.same trivial,⟨MB.cs ⟨rfl,rfl,rfl,qds⟩,⟨MB.cs ⟨qds,qds⟩,⟨MB.gs (eI .i64) true l7,⟨MB.es (eI .i64) true l8',⟨.same (hkin _ (by decide)),qds⟩⟩⟩⟩⟩⟩⟩⟩⟩⟩,l8',⟨hi15,el8'⟩,rfl⟩
 .rintro l8 ⟨hi15,el8⟩;rw[qbx]at hi15;simp only[za1]at hi15;exact⟨l8,(qae hi15).symm,el8,rfl⟩
 .rintro _ ⟨l8,oeq,el8,rfl⟩;have oeq2:=oeq.symm;subst oeq2;rw[congrFun hM15 l8];refine zad ?_;refine sXM @zak ?_;exact rHM h
 .intro id L1 hx; exact hx.elim
 intro L1 hx; exact hx.2.2
def zck(p0:Int)(kp0:Int):Option Bool:=
some (p0 == kp0)
variable{kp0:Int}
theorem zgr{p0:Int}(h:zck p0 kp0=some r):Lx.Fn mC 106 [(dI p0),(.fptr false [(dI kp0)])] (dB r):=by
 refine gnO ?_;unfold zck at h;refine wSM ?_;exact rHM h
def zav(p0:(List Int))(kp0:Int):Nat->Int->(List Int)->(List Int)->Option ((List Int)×(List Int))
 | 0,_,_,_=>none
 | n+1,v10,l0,l1=>(
bif (decide (v10<(p0.length:Int)))then(
(zaE p0 v10).bind λx2=>
(zck x2 kp0).bind λr4=>
((bif r4 then(
(zcX 8 l0 [x2]).bind λy9=>
some (y9,l1))
else(
(zcX 8 l1 [x2]).bind λy7=>
some (l0,y7)):Option (((List Int)×(List Int))))).bind λo=>match o with
|(l0',l1')=>(
zav p0 kp0 n (w64 (v10+1)) l0' l1'))
else(
some (l0,l1)))
def zbJ(p0:(List Int))(kp0:Int):Option ((List Int)×(List Int)):=
((zav p0 kp0 ((p0.length:Int) - 0+2:Int).toNat 0 [] []:Option (((List Int)×(List Int))))).bind λo=>match o with
|(l0,l1)=>(
some (l0,l1))
theorem zfy{r:((List Int)×(List Int))}(h:zbJ p0 kp0=some r):Lx.Fn mC 105 [(fzE false (eI .i64) p0),(.clo 106 [] [(.fptr false [(dI kp0)])])] (.tup [(fzE true (eI .i64) r.1),(fzE true (eI .i64) r.2)]):=by
 refine gnO ?_;unfold zbJ at h;refine wSM ?_;obtain⟨o5,j5,h⟩:=bsM h;refine usM [] 0 (λa:((List Int)×(List Int))=>([(4,(.sl 0 0 1 a.1.length none a.1.length)),(5,(.sl 1 0 1 a.2.length none a.2.length))],[],[.grow 1 (a.1.map ((eI .i64).c true)),.grow 1 (a.2.map ((eI .i64).c true))])) λT5 hT5=>?_
 refine EvL.jn T5 (λa=>a=o5) ?_ ?_
 .refine wSM ?_;obtain⟨T9,hT9⟩:=mkT λa:(Int×(List Int)×(List Int))=>⟨28,[(1,(.clo 106 [] [(.fptr false [(dI kp0)])])),(4,(.sl 0 0 1 a.2.1.length none a.2.1.length)),(5,(.sl 1 0 1 a.2.2.length none a.2.2.length)),(8,(fzE false (eI .i64) p0)),(9,(dI (p0.length:Int))),(10,(dI a.1))],[.grow 1 (a.2.1.map ((eI .i64).c true)),.grow 1 (a.2.2.map ((eI .i64).c true))]⟩
  refine EvL.zgd (za8.ghost (n:=1) (k:=4) (by decide) rfl) ?_;refine EvL.zgd (za8.ghost (n:=1) (k:=5) (by decide) rfl) ?_;refine EvL.rounds (α:=(Int×(List Int)×(List Int))) T9 (λn a=>zav p0 kp0 n a.1 a.2.1 a.2.2=some o5) ((p0.length:Int) - 0+2:Int).toNat (0,[],[]) (by rw[hT9]; exact wm0 [.k,.k] ⟨MB.gs (eI .i64) true [],⟨MB.gs (eI .i64) true [],qds⟩⟩) j5 (λ_ h=>nomatch (show(none:Option ((List Int)×(List Int)))=some o5 from h)) ?_;rintro n ⟨v10,l0,l1⟩ j5;simp only[zav]at j5;refine wTM hT9 ?_;refine cBM j5 (λ_ j5=>?_) λ_ j5=>?_
  .exact zch j5 hT5
  obtain⟨x2,g3,r4,g5,j5⟩:=zfo j5;refine sXM (ixM g3) ?_;refine EvL.fnv rfl rfl (zgr g5) rfl (.cons (.lit _) (.cons (.fptr (λh=>nomatch h) rfl (Snps.get (.cons (.lit _) .nil))) .nil)) ?_;refine sSM ?_;obtain⟨o10,j10,j5⟩:=bsM j5;obtain⟨T10,hT10⟩:=zcC hT9 λa:((List Int)×(List Int))=>uDM (T9 (v10,l0,l1)) [4,5] [(4,(.sl 0 0 1 a.1.length none a.1.length)),(5,(.sl 1 0 1 a.2.length none a.2.length))] [(0,.grow 1 (a.1.map ((eI .i64).c true))),(1,.grow 1 (a.2.map ((eI .i64).c true)))] []
  refine EvL.jn T10 (λa=>a=o10) ?_ ?_
  .refine wSM ?_;refine cBM j10 (λ_ j10=>?_) λ_ j10=>?_
   .obtain⟨y7,g8,j10⟩:=bsM j10;refine sXM (anM (zbz g8) (anM (plM g8) (piM g8))) ?_;exact zch j10 hT10
   obtain⟨y9,g10,j10⟩:=bsM j10;refine sXM (anM (zbz g10) (anM (plM g10) (piM g10))) ?_;exact zch j10 hT10
  rintro⟨l0',l1'⟩ rfl;dsimp only at j5;refine wTM hT10 ?_;exact zcr hT9 ((w64 (v10+1)),l0',l1') j5
 rintro⟨l0,l1⟩ rfl;dsimp only at h;refine wTM hT5 ?_;exact rHM h
def zb6(p0:S_api_Factor)(p1:Int):Option Bool:=
(zbJ p0.vars p1).bind λr1=>
some (decide (0<(r1.1.length:Int)))
theorem zge{p0:S_api_Factor}{p1:Int}(h:zb6 p0 p1=some r):Lx.Fn mC 76 [(.agg [(fzE false (eI .i64) p0.vars),(fzE false (eI .i64) p0.zah),(fzE false (eI .i64) p0.w)]),(dI p1)] (dB r):=by
 refine gnO ?_;unfold zb6 at h;refine zad ?_;obtain⟨r1,g2,h⟩:=bsM h;refine sSM ?_;refine EvL.fn (zfy g2) rfl rfl (.cons (zcY _ _ (λh=>nomatch h)) (.cons (.clo rfl rfl (Snps.get .nil) (Snps.get (.cons (.ptr rfl (qad rfl) (λk d d' h1 h2=>(Snps.get (.cons (.lit _) .nil)) k d d' (by rwa [qaR]at h1) h2)) .nil))) .nil)) ?_;refine sSM ?_;exact rHM h
def zaP(p0:S_api_Factor)(kp0:Int):Option Bool:=
(zb6 p0 kp0).bind λr1=>
some r1
theorem zeh{p0:S_api_Factor}(h:zaP p0 kp0=some r):Lx.Fn mC 80 [(.agg [(fzE false (eI .i64) p0.vars),(fzE false (eI .i64) p0.zah),(fzE false (eI .i64) p0.w)]),(.fptr false [(dI kp0)])] (dB r):=by
 refine gnO ?_;unfold zaP at h;refine zad ?_;obtain⟨r1,g2,h⟩:=bsM h;refine sSM ?_;refine fCM (zge g2) ?_;exact rHM h
def zbO(p0:(List S_api_Factor))(kp0:Int):Nat->Int->(List S_api_Factor)->(List S_api_Factor)->Option ((List S_api_Factor)×(List S_api_Factor))
 | 0,_,_,_=>none
 | n+1,v10,l0,l1=>(
bif (decide (v10<(p0.length:Int)))then(
(zaE p0 v10).bind λx2=>
(zaP x2 kp0).bind λr4=>
((bif r4 then(
(zcX 72 l0 [x2]).bind λy9=>
some (y9,l1))
else(
(zcX 72 l1 [x2]).bind λy7=>
some (l0,y7)):Option (((List S_api_Factor)×(List S_api_Factor))))).bind λo=>match o with
|(l0',l1')=>(
zbO p0 kp0 n (w64 (v10+1)) l0' l1'))
else(
some (l0,l1)))
def zdi(p0:(List S_api_Factor))(kp0:Int):Option ((List S_api_Factor)×(List S_api_Factor)):=
((zbO p0 kp0 ((p0.length:Int) - 0+2:Int).toNat 0 [] []:Option (((List S_api_Factor)×(List S_api_Factor))))).bind λo=>match o with
|(l0,l1)=>(
some (l0,l1))
theorem zji{p0:(List S_api_Factor)}{r:((List S_api_Factor)×(List S_api_Factor))}(h:zdi p0 kp0=some r):Lx.FnT mC 79 [(fzE false zab p0),(.clo 80 [] [(.fptr false [(dI kp0)])])] [(.sl 0 0 3 r.1.length none r.1.length),(.sl 1 0 3 r.2.length none r.2.length)] [.grow 3 (r.1.map (zab.c false)),.grow 3 (r.2.map (zab.c false))]:=by
 refine zGb (by conv=>lhs; cbv) ?_;unfold zdi at h;refine wSM ?_;obtain⟨o5,j5,h⟩:=bsM h;refine usM [] 0 (λa:((List S_api_Factor)×(List S_api_Factor))=>([(4,(.sl 0 0 3 a.1.length none a.1.length)),(5,(.sl 1 0 3 a.2.length none a.2.length))],[],[.grow 3 (a.1.map (zab.c false)),.grow 3 (a.2.map (zab.c false))])) λT5 hT5=>?_
 refine EvL.jn T5 (λa=>a=o5) ?_ ?_
 .refine wSM ?_;obtain⟨T9,hT9⟩:=mkT λa:(Int×(List S_api_Factor)×(List S_api_Factor))=>⟨28,[(1,(.clo 80 [] [(.fptr false [(dI kp0)])])),(4,(.sl 0 0 3 a.2.1.length none a.2.1.length)),(5,(.sl 1 0 3 a.2.2.length none a.2.2.length)),(8,(fzE false zab p0)),(9,(dI (p0.length:Int))),(10,(dI a.1))],[.grow 3 (a.2.1.map (zab.c false)),.grow 3 (a.2.2.map (zab.c false))]⟩
  refine EvL.zgd (za8.ghost (n:=3) (k:=4) (by decide) rfl) ?_;refine EvL.zgd (za8.ghost (n:=3) (k:=5) (by decide) rfl) ?_;refine EvL.rounds (α:=(Int×(List S_api_Factor)×(List S_api_Factor))) T9 (λn a=>zbO p0 kp0 n a.1 a.2.1 a.2.2=some o5) ((p0.length:Int) - 0+2:Int).toNat (0,[],[]) (by rw[hT9]; exact wm0 [.k,.k] ⟨MB.gs zab false [],⟨MB.gs zab false [],qds⟩⟩) j5 (λ_ h=>nomatch (show(none:Option ((List S_api_Factor)×(List S_api_Factor)))=some o5 from h)) ?_;rintro n ⟨v10,l0,l1⟩ j5;simp only[zbO]at j5;refine wTM hT9 ?_;refine cBM j5 (λ_ j5=>?_) λ_ j5=>?_
  .exact zch j5 hT5
  obtain⟨x2,g3,r4,g5,j5⟩:=zfo j5;refine sXM (anM @zde (zaq (n:=3) (e:=zab) rfl g3)) ?_;refine EvL.fnv rfl rfl (zeh g5) rfl (.cons (.zup (.cons (zcY _ _ (λh=>nomatch h)) (.cons (zcY _ _ (λh=>nomatch h)) (.cons (zcY _ _ (λh=>nomatch h)) .nil)))) (.cons (.fptr (λh=>nomatch h) rfl (Snps.get (.cons (.lit _) .nil))) .nil)) ?_;refine sSM ?_;obtain⟨o10,j10,j5⟩:=bsM j5;obtain⟨T10,hT10⟩:=zcC hT9 λa:((List S_api_Factor)×(List S_api_Factor))=>uDM (T9 (v10,l0,l1)) [4,5] [(4,(.sl 0 0 3 a.1.length none a.1.length)),(5,(.sl 1 0 3 a.2.length none a.2.length))] [(0,.grow 3 (a.1.map (zab.c false))),(1,.grow 3 (a.2.map (zab.c false)))] []
  refine EvL.jn T10 (λa=>a=o10) ?_ ?_
  .refine wSM ?_;refine cBM j10 (λ_ j10=>?_) λ_ j10=>?_
   .obtain⟨y7,g8,j10⟩:=bsM j10;refine sXM (anM (zbz g8) (anM (plM g8) (show l1.map (zab.c false)++ [[(fzE false (eI .i64) x2.vars),(fzE false (eI .i64) x2.zah),(fzE false (eI .i64) x2.w)]]=y7.map (zab.c false)from zdB g8 (zab.c false)))) ?_;exact zch j10 hT10
   obtain⟨y9,g10,j10⟩:=bsM j10;refine sXM (anM (zbz g10) (anM (plM g10) (show l0.map (zab.c false)++ [[(fzE false (eI .i64) x2.vars),(fzE false (eI .i64) x2.zah),(fzE false (eI .i64) x2.w)]]=y9.map (zab.c false)from zdB g10 (zab.c false)))) ?_;exact zch j10 hT10
  rintro⟨l0',l1'⟩ rfl;dsimp only at j5;refine wTM hT10 ?_;exact zcr hT9 ((w64 (v10+1)),l0',l1') j5
 rintro⟨l0,l1⟩ rfl;dsimp only at h;refine wTM hT5 ?_;obtain rfl:=qae h;exact zAb.ret (⟨28,[(4,(.sl 0 0 3 l0.length none l0.length)),(5,(.sl 1 0 3 l1.length none l1.length))],[.grow 3 (l0.map (zab.c false)),.grow 3 (l1.map (zab.c false))]⟩) (wAM) rfl rfl
def zao(p1:(List Int))(p0:S_eliminate_query):Nat->Int->Int->Option (Out Unit Bool)
 | 0,_,_=>none
 | n+1,v5,v21=>(
bif (decide (v21<(p1.length:Int)))then(
(zaE p1 v21).bind λx5=>
((bif (decide (x5<0))then(
some true)
else(
bif (decide ((p0.net.nodes.length:Int)<=x5))then(
some true)
else(
(zku .u64 v5 x5).bind λq9=>
some ((zkZ .u64 q9 1)== 1))):Option Bool)).bind λv41=>
bif v41 then(
some (.ret false))
else(
(zpr .u64 1 x5).bind λq12=>
zao p1 p0 n (orI .u64 v5 q12) (w64 (v21+1))))
else(
some (.go ())))
def zaw(p0:S_eliminate_query)(p1:(List Int)):Option Bool:=
bif ((p1.length:Int)==(w64 ((p0.net.nodes.length:Int) - 1)))then(
(zpr .u64 1 p0.node).bind λq2=>
((zao p1 p0 ((p1.length:Int) - 0+2:Int).toNat q2 0:Option (Out Unit Bool))).bind λo=>match o with
| .go _=>(
some true)
| .ret r=>some r)
else(
some false)
theorem zfm{p0:S_eliminate_query}{p1:(List Int)}(h:zaw p0 p1=some r):Lx.Fn mC 40 [(.agg [(dI p0.net.grain),(fzE false zaa p0.net.nodes),(fzE false (eI .i64) p0.known),(dI p0.node)]),(fzE false (eI .i64) p1)] (dB r):=by
 refine gnO ?_;unfold zaw at h;refine wSM ?_;refine cBM h (λ_ h=>?_) λ_ h=>?_
 .exact rHM h
 obtain⟨q2,g3,h⟩:=bsM h;refine sXM (anM ((zby g3).1) ((zby g3).2)) ?_;obtain⟨o4,j4,h⟩:=bsM h;refine usM [] 0 (λa:Unit=>([],[],[])) λT4 hT4=>?_
 refine EvL.jn T4 (λa=>o4=.go a) ?_ ?_
 .refine wSM ?_;refine usM [2,19,20] 1 (λa:(Int×Int)=>([(5,(dU a.1)),(21,(dI a.2))],[],[])) λT7 hT7=>?_
  refine rdM hT7 (λn a=>zao p1 p0 n a.1 a.2=some o4) (q2,0) j4 ?_;rintro n ⟨v5,v21⟩ j4;simp only[zao]at j4;refine wTM hT7 ?_;refine cBM j4 (λ_ j4=>?_) λ_ j4=>?_
  .exact zk6 j4 hT4
  obtain⟨x5,g6,j4⟩:=bsM j4;refine sXM (ixM g6) ?_;obtain⟨o8,j8,j4⟩:=bsM j4;obtain⟨T8,hT8⟩:=zcC hT7 λa:Bool=>uDM (T7 (v5,v21)) [] [(7,(dI x5)),(41,(dB a))] [] []
  refine EvL.jn T8 (λa=>a=o8) ?_ ?_
  .refine wSM ?_;refine cBM j8 (λ_ j8=>?_) λ_ j8=>?_
   .refine cBM j8 (λ_ j8=>?_) λ_ j8=>?_
    .obtain⟨q9,g10,j8⟩:=bsM j8;refine sXM (anM ((zbA g10).1) ((zbA g10).2)) ?_;exact zch j8 hT8
    exact zch j8 hT8
   exact zch j8 hT8
  rintro v41 rfl;refine wTM hT8 ?_;refine cBM j4 (λ_ j4=>?_) λ_ j4=>?_
  .obtain⟨q12,g13,j4⟩:=bsM j4;refine sXM (anM ((zby g13).1) ((zby g13).2)) ?_;exact zcr hT7 ((orI .u64 v5 q12),(w64 (v21+1))) j4
  obtain rfl:=qae j4;exact rHM h
 rintro⟨⟩ rfl;dsimp only at h;refine wTM hT4 ?_;exact rHM h
end Go.Dc
