/-
 What net_CheckEvidence computes. Conditions: none.
-/
import Derived.Test.YtbjogdohfhdaiaaGreatEcJ2
import Derived.Test.YtbjogdohfhdaiaaGreatEcJ1
import Derived.Test.YtbjogdohfhdaiaaGreatEcJ3
set_option linter.unusedSimpArgs false
set_option linter.unusedVariables false
set_option maxRecDepth 100000
set_option maxHeartbeats 4000000
namespace Go.Dc
open Go Go.Mx Go.Lx Go.Proofs
def zbe(p1:(List Int))(r1:(S_net_network×Int)):Nat->Int->Option (Out Unit Int)
 | 0,_=>none
 | n+1,v26=>(
bif (decide (v26<(p1.length:Int)))then(
(zaE p1 v26).bind λx6=>
((bif (decide (x6<(-1)))then(
some true)
else(
(zaE r1.1.zah v26).bind λx9=>
some (decide (x9<=x6))):Option Bool)).bind λv41=>
bif v41 then(
some (.ret 2))
else(
zbe p1 r1 n (w64 (v26+1))))
else(
some (.go ())))
def zbm(p0:S_api_Net)(p1:(List Int)):Option Int:=
(zdu p0).bind λr1=>
bif (r1.2 == 0)then(
bif ((p1.length:Int)==(r1.1.net.nodes.length:Int))then(
((zbe p1 r1 ((p1.length:Int) - 0+2:Int).toNat 0:Option (Out Unit Int))).bind λo=>match o with
| .go _=>(
some 0)
| .ret r=>some r)
else(
some 2))
else(
some r1.2)
theorem zhb{p0:S_api_Net}{p1:(List Int)}{r:Int}(h:zbm p0 p1=some r):Lx.Fn mC 67 [(.agg [(dI p0.grain),(fzE false zaa p0.nodes)]),(fzE false (eI .i64) p1)] (dI r):=by
 refine gnO ?_;unfold zbm at h;refine zad ?_;obtain⟨r1,g2,h⟩:=bsM h;refine sSM ?_;refine fDM (zjR g2) ?_;refine cBM h (λ_ h=>?_) λ_ h=>?_
 .exact rHM h
 refine cBM h (λ_ h=>?_) λ_ h=>?_
 .exact rHM h
 obtain⟨o4,j4,h⟩:=bsM h;refine usM [] 0 (λa:Unit=>([],[],[])) λT4 hT4=>?_
 refine EvL.jn T4 (λa=>o4=.go a) ?_ ?_
 .refine wSM ?_;refine usM [5,24,25] 2 (λa:Int=>([(26,(dI a))],[(0,.gone)],[])) λT7 hT7=>?_
  refine rdM hT7 (λn a=>zbe p1 r1 n a=some o4) 0 j4 ?_;rintro n v26 j4;simp only[zbe]at j4;refine wTM hT7 ?_;refine cBM j4 (λ_ j4=>?_) λ_ j4=>?_
  .exact zk6 j4 hT4
  obtain⟨x6,g7,j4⟩:=bsM j4;refine sXM (ixM g7) ?_;obtain⟨o8,j8,j4⟩:=bsM j4;obtain⟨T8,hT8⟩:=zcC hT7 λa:Bool=>uDM (T7 v26) [] [(41,(dB a))] [] []
  refine EvL.jn T8 (λa=>a=o8) ?_ ?_
  .refine wSM ?_;refine cBM j8 (λ_ j8=>?_) λ_ j8=>?_
   .obtain⟨x9,g10,j8⟩:=bsM j8;refine sXM (ixM g10) ?_;exact zch j8 hT8
   exact zch j8 hT8
  rintro v41 rfl;refine wTM hT8 ?_;refine cBM j4 (λ_ j4=>?_) λ_ j4=>?_
  .exact zcr hT7 (w64 (v26+1)) j4
  obtain rfl:=qae j4;exact rHM h
 rintro⟨⟩ rfl;dsimp only at h;refine wTM hT4 ?_;exact rHM h
def zcJ(r4:(S_factor_table×Int))(r12:(Int×Int)):List (Int×Int×(List Int))->(List Int)->Option (Out (List Int) (S_api_Factor×Int))
 | [],l6'=>some (.go l6')
 | y36 :: ys,l6'=>(
(zaE l6' y36.1).bind λx37=>
(zaE r4.1.factor.w y36.2.1).bind λx39=>
(zeJ (IntKind.u64.wrap x37) (IntKind.u64.wrap x39)).bind λr41=>
((bif (r41.1 == 0)then(
some (decide (4611686018427387903<r41.2)))
else(
some true):Option Bool)).bind λv102=>
bif v102 then(
some (.ret ((S_api_Factor.mk [] [] []),6)))
else(
(zaE l6' y36.1).bind λx45=>
(zfl l6' y36.1 (w64 r41.2)).bind λy47=>
zcJ r4 r12 ys y47))
def zcI(r1:(S_factor_table×Int))(r12:(Int×Int)):List (Int×Int×(List Int))->(List Int)->Option (List Int)
 | [],l6=>some l6
 | y23 :: ys,l6=>(
(zaE r1.1.factor.w y23.2.1).bind λx24=>
(zaE l6 y23.1).bind λx26=>
(zfl l6 y23.1 x24).bind λy28=>
zcI r1 r12 ys y28)
def zc7(p0:S_api_Factor)(p1:S_api_Factor):Option (S_api_Factor×Int):=
(zbV p0).bind λr1=>
bif (r1.2 == 0)then(
(zbV p1).bind λr4=>
bif (r4.2 == 0)then(
(zdA r1.1 r4.1).bind λr7=>
bif r7 then(
(zdC r1.1 r4.1).bind λr10=>
(zdn r10.2).bind λr12=>
bif (r12.2 == 0)then(
(zeR 8 r12.1 0).bind λy15=>
(zbd r1.1 r10.1).bind λr17=>
(zca r10.2 r17).bind λr19=>
(zAm r19.1 r19.2).bind λu21=>
((zcI r1 r12 u21 y15:Option (List Int))).bind λl6=>
(zbd r4.1 r10.1).bind λr30=>
(zca r10.2 r30).bind λr32=>
(zAm r32.1 r32.2).bind λu34=>
((zcJ r4 r12 u34 l6:Option (Out (List Int) (S_api_Factor×Int)))).bind λo=>match o with
| .go l6'=>(
some ((S_api_Factor.mk r10.1 r10.2 l6'),0))
| .ret r=>some r)
else(
some ((S_api_Factor.mk [] [] []),3)))
else(
some ((S_api_Factor.mk [] [] []),2)))
else(
some ((S_api_Factor.mk [] [] []),r4.2)))
else(
some ((S_api_Factor.mk [] [] []),r1.2))
theorem zm4{p0:S_api_Factor}{p1:S_api_Factor}{r:(S_api_Factor×Int)}(h:zc7 p0 p1=some r):Lx.Fn mC 112 [(.agg [(fzE false (eI .i64) p0.vars),(fzE false (eI .i64) p0.zah),(fzE false (eI .i64) p0.w)]),(.agg [(fzE false (eI .i64) p1.vars),(fzE false (eI .i64) p1.zah),(fzE false (eI .i64) p1.w)])] (.tup [(.agg [(fzE true (eI .i64) r.1.vars),(fzE true (eI .i64) r.1.zah),(fzE true (eI .i64) r.1.w)]),(dI r.2)]):=by
 refine gnO ?_;unfold zc7 at h;refine zad ?_;obtain⟨r1,g2,h⟩:=bsM h;refine sSM ?_;refine fDM (zeu g2) ?_;refine cBM h (λ_ h=>?_) λ_ h=>?_
 .exact rHM h
 obtain⟨r4,g5,h⟩:=bsM h;refine sSM ?_;refine fDM (zeu g5) ?_;refine cBM h (λ_ h=>?_) λ_ h=>?_
 .exact rHM h
 obtain⟨r7,g8,h⟩:=bsM h;refine sSM ?_;refine fCM (zjZ g8) ?_;refine cBM h (λ_ h=>?_) λ_ h=>?_
 .exact rHM h
 obtain⟨r10,g11,h⟩:=bsM h;refine sSM ?_;refine fCM (zkE g11) ?_;obtain⟨r12,g13,h⟩:=bsM h;refine sSM ?_;refine fCM (zid g13) ?_;refine cBM h (λ_ h=>?_) λ_ h=>?_
 .exact rHM h
 obtain⟨y15,g16,r17,g18,h⟩:=zfo h;refine sXM (anM ((zaD g16).1.1) (anM ((zaD g16).1.2) (anM @qbS (miM g16)))) ?_;refine fCM (zdd g18) ?_;obtain⟨r19,g20,h⟩:=bsM h;refine sSM ?_;refine fDM (zdq g20) ?_;obtain⟨u21,g22,o1,j1,h⟩:=zfo h;obtain⟨T1,hM1⟩:∃ T:(List Int)->List LB,T=(λa=>[.cells [(fzE false (eI .i64) p0.vars),(fzE false (eI .i64) p0.zah),(fzE false (eI .i64) p0.w)],.cells [(fzE false (eI .i64) p1.vars),(fzE false (eI .i64) p1.zah),(fzE false (eI .i64) p1.w)],.cells [zez,zez,zez],.cells [(dI 0)],.cells [(fzE false (eI .i64) r1.1.factor.vars),(fzE false (eI .i64) r1.1.factor.zah),(fzE false (eI .i64) r1.1.factor.w),(fzE false (eI .i64) r1.1.steps)],.cells [(fzE false (eI .i64) r4.1.factor.vars),(fzE false (eI .i64) r4.1.factor.zah),(fzE false (eI .i64) r4.1.factor.w),(fzE false (eI .i64) r4.1.steps)],.els 1 (a.map ((eI .i64).c true)),.cells [(.sl 6 0 1 (Int.toNat r12.1) (some (Int.toNat r12.1)) (Int.toNat r12.1))]]):=⟨_,rfl⟩;refine EvL.zgd (S':=⟨113,[(4,(.ptr 2 0)),(5,(.ptr 3 0)),(6,(.ptr 4 0)),(8,(.ptr 5 0)),(9,(fzE true (eI .i64) r10.1)),(10,(fzE true (eI .i64) r10.2)),(12,(.ptr 7 0)),(62,(.clo 125 [] [(.fptr false ((eL (eI .i64)).c false r19.1)),(.fptr false ((eL (eI .i64)).c false r19.2))]))],T1 y15⟩) (by rw[hM1]; exact wAM) ?_;refine EvL.zhd (n0:=8) (zcZ g22) rfl (bm:=.block 1 (.reg true false [⟨some 65,.load none (.s 12),none⟩,⟨some 66,.mov (.s 13),none⟩,⟨some 67,.fld 0 (.s 6),none⟩,⟨some 68,.fld 2 (.s 67),none⟩,⟨some 69,.load none (.s 68),none⟩,⟨some 70,.mov (.s 14),none⟩,⟨some 71,.idxS 1 (.s 69) (.s 70),none⟩,⟨some 72,.load none (.s 71),none⟩,⟨some 73,.idxS 1 (.s 65) (.s 66),none⟩,⟨none,.store 1 (.s 73) (.s 72),none⟩])) rfl T1 (λi a=>zcI r1 r12 (u21.drop i) a=some o1/\a.length=(Int.toNat r12.1)) (λx L1=>match x with | .normal=>∃ a,o1=a/\a.length=(Int.toNat r12.1)/\L1=T1 a | .ret=>L1.length=8/\zdw (8+1) L1/\(zje [.cell 4 (some 3),.cell 5 none] ((.tup [(.agg [(fzE true (eI .i64) r.1.vars),(fzE true (eI .i64) r.1.zah),(fzE true (eI .i64) r.1.w)]),(dI r.2)]))) .ret ⟨113,[(4,(.ptr 2 0)),(5,(.ptr 3 0)),(6,(.ptr 4 0)),(8,(.ptr 5 0)),(9,(fzE true (eI .i64) r10.1)),(10,(fzE true (eI .i64) r10.2)),(12,(.ptr 7 0)),(62,(.clo 125 [] [(.fptr false ((eL (eI .i64)).c false r19.1)),(.fptr false ((eL (eI .i64)).c false r19.2))]))],L1 ++ [.lost]⟩| _=>False) y15 ?_ (qar _) ?_ ?_ ?_ (λd L1 hx=>hx.elim) ?_ ?_ ?_ ?_ ?_ ?_
 .intro a; rw[hM1]; rfl
 .exact⟨(qad rfl),(qad rfl),(qad rfl),(qad rfl),qds,qds,(qad rfl),⟨qds,⟨qds,qds,qds⟩⟩,qds⟩
 .intro a; rw[hM1]; exact⟨⟨qds,qds,qds,qds⟩,⟨qds,qds,qds,qds⟩,⟨qds,qds,qds,qds⟩,⟨qds,qds⟩,⟨qds,qds,qds,qds,qds⟩,⟨qds,qds,qds,qds,qds⟩,(zea (eI .i64) _ _ _),⟨(qad rfl),qds⟩,qds⟩
 .intro x L1 hx;cases x with
  | normal=>obtain⟨a,_,_,rfl⟩:=hx; exact⟨by rw[hM1]; rfl,by rw[hM1]; exact⟨⟨qds,qds,qds,qds⟩,⟨qds,qds,qds,qds⟩,⟨qds,qds,qds,qds⟩,⟨qds,qds⟩,⟨qds,qds,qds,qds,qds⟩,⟨qds,qds,qds,qds,qds⟩,(zea (eI .i64) _ _ _),⟨(qad rfl),qds⟩,qds⟩⟩
  | ret=>exact⟨hx.1,hx.2.1⟩
  | exit id=>exact hx.elim
  | panic d=>exact hx.elim
 .exact⟨j1,zbC g16⟩
 .rintro i l6 y23 args G lpF hy ⟨hi1,el6⟩ ⟨rfl,rfl⟩ hkin;rw[zf4 hy]at hi1;simp only[zcI]at hi1;refine⟨_,_,rfl,rfl,?_⟩;rw[congrFun hM1 l6];refine zad ?_;obtain⟨x24,g25,x26,g27,y28,g29,hi1⟩:=zhx hi1;refine sXM (anM (ixM g25) (anM el6 (anM (zaZ g27) (anM (ltM el6 g27) (anM (giM g27) (siM g29)))))) ?_;exact⟨T1 y28,by rw[hM1]; rfl,by rw[hM1]; exact za8.mK [.k,.k,.k,.k,.k,.k,.k,.k,.k,.k] rfl rfl qds ⟨MB.cs ⟨qds,qds,qds,qds⟩,⟨MB.cs ⟨qds,qds,qds,qds⟩,⟨MB.cs ⟨qds,qds,qds,qds⟩,⟨MB.cs ⟨qds,qds⟩,⟨MB.cs ⟨qds,qds,qds,qds,qds⟩,⟨MB.cs ⟨qds,qds,qds,qds,qds⟩,⟨MB.es (eI .i64) true y28,⟨MB.cs ⟨rfl,qds⟩,⟨.same (hkin _ (by decide)),⟨MB.same (zeP _ _ _ _),qds⟩⟩⟩⟩⟩⟩⟩⟩⟩⟩,y28,⟨hi1,(zaX g29).trans el6⟩,rfl⟩
 .rintro l6 ⟨hi1,el6⟩;rw[qbx]at hi1;simp only[zcI]at hi1;exact⟨l6,(qae hi1).symm,el6,rfl⟩
 .rintro _ ⟨l6,oeq,el6,rfl⟩;have oeq2:=oeq.symm;subst oeq2;rw[congrFun hM1 l6];refine zad ?_;obtain⟨r30,g31,h⟩:=bsM h;refine sSM ?_;refine fCM (zdd g31) ?_;obtain⟨r32,g33,h⟩:=bsM h;refine sSM ?_;refine fDM (zdq g33) ?_;obtain⟨u34,g35,o4,j4,h⟩:=zfo h;obtain⟨T4,hM4⟩:∃ T:(List Int)->List LB,T=(λa=>[.cells [(fzE false (eI .i64) p0.vars),(fzE false (eI .i64) p0.zah),(fzE false (eI .i64) p0.w)],.cells [(fzE false (eI .i64) p1.vars),(fzE false (eI .i64) p1.zah),(fzE false (eI .i64) p1.w)],.cells [zez,zez,zez],.cells [(dI 0)],.cells [(fzE false (eI .i64) r1.1.factor.vars),(fzE false (eI .i64) r1.1.factor.zah),(fzE false (eI .i64) r1.1.factor.w),(fzE false (eI .i64) r1.1.steps)],.cells [(fzE false (eI .i64) r4.1.factor.vars),(fzE false (eI .i64) r4.1.factor.zah),(fzE false (eI .i64) r4.1.factor.w),(fzE false (eI .i64) r4.1.steps)],.els 1 (a.map ((eI .i64).c true)),.cells [(.sl 6 0 1 (Int.toNat r12.1) (some (Int.toNat r12.1)) (Int.toNat r12.1))],.lost]):=⟨_,rfl⟩;refine EvL.zgd (S':=⟨113,[(4,(.ptr 2 0)),(5,(.ptr 3 0)),(8,(.ptr 5 0)),(9,(fzE true (eI .i64) r10.1)),(10,(fzE true (eI .i64) r10.2)),(12,(.ptr 7 0)),(78,(.clo 125 [] [(.fptr false ((eL (eI .i64)).c false r32.1)),(.fptr false ((eL (eI .i64)).c false r32.2))]))],T4 l6⟩) (by rw[hM4]; exact wm0 [.k,.k,.k,.k,.k,.k,.k,.k,.k] ⟨MB.cs ⟨qds,qds,qds,qds⟩,⟨MB.cs ⟨qds,qds,qds,qds⟩,⟨MB.cs ⟨qds,qds,qds,qds⟩,⟨MB.cs ⟨qds,qds⟩,⟨MB.cs ⟨qds,qds,qds,qds,qds⟩,⟨MB.cs ⟨qds,qds,qds,qds,qds⟩,⟨MB.es (eI .i64) true l6,⟨MB.cs ⟨rfl,qds⟩,⟨MB.same trivial,qds⟩⟩⟩⟩⟩⟩⟩⟩⟩) ?_;refine EvL.zhd (n0:=9) (zcZ g35) rfl (bm:=.block 3 (.seq (.reg true false [⟨some 82,.load none (.s 12),none⟩,⟨some 83,.mov (.s 15),none⟩,⟨some 84,.idxS 1 (.s 82) (.s 83),none⟩,⟨some 85,.load none (.s 84),none⟩,⟨some 86,.conv .u64 (.s 85),none⟩,⟨some 87,.fld 0 (.s 8),none⟩,⟨some 88,.fld 2 (.s 87),none⟩,⟨some 89,.load none (.s 88),none⟩,⟨some 90,.mov (.s 16),none⟩,⟨some 91,.idxS 1 (.s 89) (.s 90),none⟩,⟨some 92,.load none (.s 91),none⟩,⟨some 93,.conv .u64 (.s 92),none⟩,⟨some 94,.call 128 [(.s 86),(.s 93)],none⟩,⟨some 81,.mov (.s 94),none⟩,⟨some 95,.ext (.s 81) 0,none⟩,⟨some 96,.ext (.s 81) 1,none⟩,⟨some 17,.mov (.s 95),none⟩,⟨some 18,.mov (.s 96),none⟩]) (.seq (.seq (.scope (.reg false false [⟨some 97,.mov (.s 17),none⟩,⟨some 98,.bin .neq (.s 97) (.c (.int .u64 0)),none⟩,⟨some 99,.mov (.s 98),none⟩,⟨some 100,.mov (.s 18),some (99,false)⟩,⟨some 101,.bin .gtr (.s 100) (.c (.int .u64 4611686018427387903)),some (99,false)⟩,⟨some 102,.pick (.s 99) (.c (.bool true)) (.s 101),none⟩])) (.cond (.s 102) (.seq (.reg false false [⟨some 103,.build [(.slice none 0 0),(.slice none 0 0),(.slice none 0 0)] [],none⟩,⟨none,.store 3 (.s 4) (.s 103),none⟩,⟨none,.store 1 (.s 5) (.c (.int .i64 6)),none⟩]) (.ret)) (.skip))) (.reg false false [⟨some 104,.load none (.s 12),none⟩,⟨some 105,.mov (.s 15),none⟩,⟨some 106,.mov (.s 18),none⟩,⟨some 107,.conv .i64 (.s 106),none⟩,⟨some 108,.idxS 1 (.s 104) (.s 105),none⟩,⟨none,.store 1 (.s 108) (.s 107),none⟩])))) rfl T4 (λi a=>zcJ r4 r12 (u34.drop i) a=some o4/\a.length=(Int.toNat r12.1)) (λx L1=>match x with | .normal=>∃ a,o4=.go a/\a.length=(Int.toNat r12.1)/\L1=T4 a | .ret=>L1.length=9/\zdw (9+1) L1/\(zje [.cell 4 (some 3),.cell 5 none] ((.tup [(.agg [(fzE true (eI .i64) r.1.vars),(fzE true (eI .i64) r.1.zah),(fzE true (eI .i64) r.1.w)]),(dI r.2)]))) .ret ⟨113,[(4,(.ptr 2 0)),(5,(.ptr 3 0)),(8,(.ptr 5 0)),(9,(fzE true (eI .i64) r10.1)),(10,(fzE true (eI .i64) r10.2)),(12,(.ptr 7 0)),(78,(.clo 125 [] [(.fptr false ((eL (eI .i64)).c false r32.1)),(.fptr false ((eL (eI .i64)).c false r32.2))]))],L1 ++ [.lost]⟩| _=>False) l6 ?_ (qar _) ?_ ?_ ?_ (λd L1 hx=>hx.elim) ?_ ?_ ?_ ?_ ?_ ?_
  .intro a; rw[hM4]; rfl
  .exact⟨(qad rfl),(qad rfl),(qad rfl),qds,qds,(qad rfl),⟨qds,⟨qds,qds,qds⟩⟩,qds⟩
  .intro a; rw[hM4]; exact⟨⟨qds,qds,qds,qds⟩,⟨qds,qds,qds,qds⟩,⟨qds,qds,qds,qds⟩,⟨qds,qds⟩,⟨qds,qds,qds,qds,qds⟩,⟨qds,qds,qds,qds,qds⟩,(zea (eI .i64) _ _ _),⟨(qad rfl),qds⟩,qds,qds⟩
  .intro x L1 hx;cases x with
   | normal=>obtain⟨a,_,_,rfl⟩:=hx; exact⟨by rw[hM4]; rfl,by rw[hM4]; exact⟨⟨qds,qds,qds,qds⟩,⟨qds,qds,qds,qds⟩,⟨qds,qds,qds,qds⟩,⟨qds,qds⟩,⟨qds,qds,qds,qds,qds⟩,⟨qds,qds,qds,qds,qds⟩,(zea (eI .i64) _ _ _),⟨(qad rfl),qds⟩,qds,qds⟩⟩
   | ret=>exact⟨hx.1,hx.2.1⟩
   | exit id=>exact hx.elim
   | panic d=>exact hx.elim
  .exact⟨j4,el6⟩
  .rintro i l6' y36 args G lpF hy ⟨hi4,el6'⟩ ⟨rfl,rfl⟩ hkin;rw[zf4 hy]at hi4;simp only[zcJ]at hi4;refine⟨_,_,rfl,rfl,?_⟩;rw[congrFun hM4 l6'];refine zad ?_;obtain⟨x37,g38,x39,g40,r41,g42,hi4⟩:=zhx hi4;refine sXM (anM el6' (anM (zaZ g38) (anM (ltM el6' g38) (anM (giM g38) (ixM g40))))) ?_;refine fCM (znB g42) ?_;obtain⟨o5,j5,hi4⟩:=bsM hi4;refine usM [4,5,12,15,18] 11 (λa:Bool=>([(102,(dB a))],[],[])) λT5 hT5=>?_
   refine EvL.jn T5 (λa=>a=o5) ?_ ?_
   .refine wSM ?_;refine cBM j5 (λ_ j5=>?_) λ_ j5=>?_
    .obtain rfl:=qae j5;exact⟨_,rfl,by rw[hT5]; exact za8.mK (k0:=11) [.k,.k,.k,.k,.k,.k,.k,.k,.k,.k,.k] rfl rfl (msq (msq (msq (msq (msq (msq trivial)))))) ⟨MB.cs ⟨qds,qds,qds,qds⟩,⟨MB.cs ⟨qds,qds,qds,qds⟩,⟨MB.cs ⟨qds,qds,qds,qds⟩,⟨MB.cs ⟨qds,qds⟩,⟨MB.cs ⟨qds,qds,qds,qds,qds⟩,⟨MB.cs ⟨qds,qds,qds,qds,qds⟩,⟨MB.es (eI .i64) true l6',⟨MB.cs ⟨rfl,qds⟩,⟨MB.same trivial,⟨.same (hkin _ (by decide)),⟨MB.es (eI .i64) true y36.2.2,qds⟩⟩⟩⟩⟩⟩⟩⟩⟩⟩⟩⟩
    obtain rfl:=qae j5;exact⟨_,rfl,by rw[hT5]; exact za8.mK (k0:=11) [.k,.k,.k,.k,.k,.k,.k,.k,.k,.k,.k] rfl rfl (msq (msq (msq (msq (msq (msq trivial)))))) ⟨MB.cs ⟨qds,qds,qds,qds⟩,⟨MB.cs ⟨qds,qds,qds,qds⟩,⟨MB.cs ⟨qds,qds,qds,qds⟩,⟨MB.cs ⟨qds,qds⟩,⟨MB.cs ⟨qds,qds,qds,qds,qds⟩,⟨MB.cs ⟨qds,qds,qds,qds,qds⟩,⟨MB.es (eI .i64) true l6',⟨MB.cs ⟨rfl,qds⟩,⟨MB.same trivial,⟨.same (hkin _ (by decide)),⟨MB.es (eI .i64) true y36.2.2,qds⟩⟩⟩⟩⟩⟩⟩⟩⟩⟩⟩⟩
   rintro v102 rfl;refine wTM hT5 ?_;refine cBM hi4 (λ_ hi4=>?_) λ_ hi4=>?_
   .obtain⟨x45,g46,y47,g48,hi4⟩:=zfo hi4;refine sXM (anM el6' (anM (zaZ g46) (anM (ltM el6' g46) (anM (giM g46) (siM g48))))) ?_;exact⟨T4 y47,by rw[hM4]; rfl,by rw[hM4]; exact za8.mK [.k,.k,.k,.k,.k,.k,.k,.k,.k,.k,.k] rfl rfl qds ⟨MB.cs ⟨qds,qds,qds,qds⟩,⟨MB.cs ⟨qds,qds,qds,qds⟩,⟨MB.cs ⟨qds,qds,qds,qds⟩,⟨MB.cs ⟨qds,qds⟩,⟨MB.cs ⟨qds,qds,qds,qds,qds⟩,⟨MB.cs ⟨qds,qds,qds,qds,qds⟩,⟨MB.es (eI .i64) true y47,⟨MB.cs ⟨rfl,qds⟩,⟨MB.same trivial,⟨.same (hkin _ (by decide)),⟨MB.same (zeP _ _ _ _),qds⟩⟩⟩⟩⟩⟩⟩⟩⟩⟩⟩,y47,⟨hi4,(zaX g48).trans el6'⟩,rfl⟩
   obtain rfl:=qae hi4;obtain rfl:=qae h;exact⟨[.cells [(fzE false (eI .i64) p0.vars),(fzE false (eI .i64) p0.zah),(fzE false (eI .i64) p0.w)],.cells [(fzE false (eI .i64) p1.vars),(fzE false (eI .i64) p1.zah),(fzE false (eI .i64) p1.w)],.cells [zez,zez,zez],.cells [(dI 6)],.cells [(fzE false (eI .i64) r1.1.factor.vars),(fzE false (eI .i64) r1.1.factor.zah),(fzE false (eI .i64) r1.1.factor.w),(fzE false (eI .i64) r1.1.steps)],.cells [(fzE false (eI .i64) r4.1.factor.vars),(fzE false (eI .i64) r4.1.factor.zah),(fzE false (eI .i64) r4.1.factor.w),(fzE false (eI .i64) r4.1.steps)],.els 1 (l6'.map ((eI .i64).c true)),.cells [(.sl 6 0 1 (Int.toNat r12.1) (some (Int.toNat r12.1)) (Int.toNat r12.1))],.lost],rfl,za8.mK [.k,.k,.k,.k,.k,.k,.k,.k,.k,.k,.k] rfl rfl qds ⟨MB.cs ⟨qds,qds,qds,qds⟩,⟨MB.cs ⟨qds,qds,qds,qds⟩,⟨MB.cs ⟨qds,qds,qds,qds⟩,⟨MB.cs ⟨qds,qds⟩,⟨MB.cs ⟨qds,qds,qds,qds,qds⟩,⟨MB.cs ⟨qds,qds,qds,qds,qds⟩,⟨MB.es (eI .i64) true l6',⟨MB.cs ⟨rfl,qds⟩,⟨MB.same trivial,⟨.same (hkin _ (by decide)),⟨MB.same (zeP _ _ _ _),qds⟩⟩⟩⟩⟩⟩⟩⟩⟩⟩⟩,rfl,⟨⟨qds,qds,qds,qds⟩,⟨qds,qds,qds,qds⟩,⟨qds,qds,qds,qds⟩,⟨qds,qds⟩,⟨qds,qds,qds,qds,qds⟩,⟨qds,qds,qds,qds,qds⟩,(zea (eI .i64) _ _ _),⟨(qad rfl),qds⟩,qds,qds⟩,zje.ret rfl (Snp.zC6 (.cons (.zup (.cons (zhp (eI .i64)) (.cons (zhp (eI .i64)) (.cons (zhp (eI .i64)) .nil)))) (.cons (.lit _) .nil)))⟩
  .rintro l6' ⟨hi4,el6'⟩;rw[qbx]at hi4;simp only[zcJ]at hi4;exact⟨l6',(qae hi4).symm,el6',rfl⟩
  .rintro _ ⟨l6',oeq,el6',rfl⟩;have oeq2:=oeq.symm;subst oeq2;dsimp only at h;rw[congrFun hM4 l6'];refine wSM ?_;exact rHM h
  .intro id L1 hx; exact hx.elim
  intro L1 hx; exact hx.2.2
 .intro id L1 hx; exact hx.elim
 intro L1 hx; exact hx.2.2
end Go.Dc
namespace Go.Dc
open Go Go.Mx Go.Lx
abbrev noF:S_api_Factor:=⟨[],[],[]⟩
theorem zET{P:Nat}:((bif (((P / 18446744073709551616:Nat):Int)== 0)then some (decide ((4611686018427387903:Int)<((P % 18446744073709551616:Nat):Int)))else some true):Option Bool)=some (!decide (P<=zdv)):=by
 by_cases h:P / 18446744073709551616=0
 .rw[h,show(((0:Nat):Int)== 0)=true from rfl,qdt];congr 1
  by_cases h2:P<=zdv
  .rw[qdv h2]; exact qdw (by have:P<=4611686018427387903:=h2; omega)
  rw[qdw h2]; exact qdv (by have:¬ P<=4611686018427387903:=h2; omega)
 rw[show(((P / 18446744073709551616:Nat):Int)== 0)=false from beq_eq_false_iff_ne.2 (by omega),qdu,qdw (show ¬ P<=zdv by intro(h2:P<=4611686018427387903); omega)];rfl
theorem zxs{x:Nat}(h:x<=zdv):IntKind.u64.wrap (x:Int)=(x:Int):=by
 have:x<=4611686018427387903:=h;rw[zxX,qa7 (by omega)]
theorem zDM{P:Nat}(h:P<=zdv):w64 ((P % 18446744073709551616:Nat):Int)=(P:Int):=by
 have:P<=4611686018427387903:=h;rw[qa7 (by omega),zar (by omega)]
structure Dom (u c:List Nat):Prop where
 len:u.length=c.length
 nodup:u.Nodup
 zaF:∀ x∈c,1<=x/\x<=8
 le:c.length<=12
 prod:zac c<=4096
theorem zqd{cs:List Nat}(h:zcF (iL cs)=true):(∀ c∈cs,1<=c/\c<=8)/\zac cs<=4096/\cs.length<=12:=by
 obtain⟨ns,h1,h2⟩:=zkB h;have:cs=ns:=by rw[<- zhU cs,h1,zhU]
 subst this;exact h2
variable{f:Fc}
theorem Fc.zFb(hf:FcOk f)(u ds:List Nat):f.at u ds<=zdv:=by
 unfold Fc.at;generalize dot _ _=k;by_cases h:k<f.ws.length
 .rw[qal,qac h];exact hf.num _ (qam h)
 rw[qal,qbF (by omega)];exact qar _
variable{u c ds:List Nat}
theorem wat(hf:FcOk f)(hD:Dom u c)(hs:zpD u c f.vs f.cs)(hb:zc3 c ds):zaE f.D.w ((dot ds (u.map (stp f.vs f.cs)):Nat):Int)=some ((f.at u ds:Nat):Int):=by
 rw[zqU hD.nodup hf.len (zbi hf.inc)];show zaE (iL f.ws) _=_;have:=zkJ (zpD.below hD.len hb hs);rw[zfx (by rw[hf.size]; exact this)];rfl
theorem zg1(c ss:List Nat)(i m:Nat):zhy c ss i (m+1)=((i:Int),((dot (dig c i) ss:Nat):Int),iL (dig c i)):: zhy c ss (i+1) m:=by
 unfold zhy;rw[qbW,qaz]
theorem zAh{f:Fc}(hf:FcOk f){r12:Int×Int}{u c:List Nat}{e:Int}(hD:Dom u c)(hs:zpD u c f.vs f.cs):∀(m i:Nat) (ys:List Nat),i+m=zac c->ys.length=i ->
  zcI (f.T,e) r12 (zhy c (u.map (stp f.vs f.cs)) i m) (iL (ys ++ List.replicate m 0))=some (iL (ys ++ (List.range' i m).map λj=>f.at u (dig c j)))
 | 0,i,ys,_,_=>by simp[zhy,zcI]
 | m+1,i,ys,h,hy=>by
  rw[zg1];show(zaE f.D.w ((dot (dig c i) (u.map (stp f.vs f.cs)):Nat):Int)).bind _=_;rw[wat hf hD hs (zfQ hD.zaF (by omega)),qaa];simp only[];rw[qaS,zdp hy,qaa,zeW hy,qaa,show ys ++ f.at u (dig c i):: List.replicate m 0=(ys ++ [f.at u (dig c i)])++ List.replicate m 0 by simp,zAh hf hD hs m (i+1) _ (by omega) (by simp[hy]),qbW,qaz,qaF,qaN]
theorem zzC{g:Fc}(hg:FcOk g){r12:Int×Int}{u c:List Nat}{e:Int}(hD:Dom u c)(hs:zpD u c g.vs g.cs){fa:Nat->Nat}(hfa:∀ j,fa j<=zdv):∀(m i:Nat) (ys:List Nat),i+m=zac c->ys.length=i ->
  zcJ (g.T,e) r12 (zhy c (u.map (stp g.vs g.cs)) i m) (iL (ys ++ (List.range' i m).map fa))=
   some (bif (List.range' i m).all λj=>decide (fa j * g.at u (dig c j)<=zdv)then .go (iL (ys ++ (List.range' i m).map λj=>fa j * g.at u (dig c j)))else .ret (noF,6))
 | 0,i,ys,_,_=>by simp[zhy,zcJ]
 | m+1,i,ys,h,hy=>by
  have h1:fa i<=4611686018427387903:=hfa i;have h2:g.at u (dig c i)<=4611686018427387903:=Fc.zFb hg u _;rw[zg1,qbW,qaz,qdl];show(zaE (iL (ys ++ fa i :: _)) (i:Int)).bind _=_;rw[zdp hy,qaa];simp only[];rw[show(g.T,e).1.factor.w=g.D.w from rfl,wat hg hD hs (zfQ hD.zaF (by omega)),qaa,zxs h1,zxs h2,zGu (by omega) (by omega),qaa];simp only[];rw[zET,qaa];by_cases hp:fa i * g.at u (dig c i)<=zdv
  .rw[qdv hp,qbl,qdu,qaa,zDM hp,zeW hy,qaa,
    show ys ++ fa i * g.at u (dig c i)::(List.range' (i+1) m).map fa=(ys ++ [fa i * g.at u (dig c i)])++ (List.range' (i+1) m).map fa by simp,zzC hg hD hs hfa m (i+1) _ (by omega) (by simp[hy])]
   simp
  rw[qdw hp,qcd,qdt,Bool.false_and,qdu]
theorem zh1{h:Nat->Nat}{v:Nat}:∀ {us:List Nat},v∈us->at_ us (us.map h) v=h v
 | [],hm=>by simp at hm
 | u :: us,hm=>by
  rw[qaz,zgL];cases hb:(u == v)with
  | true=>simp_all
  | false=>
   rw[qdu];rcases qav.1 hm with e | e
   .simp_all
   exact zh1 e
theorem zrh:∀ {vs ds:List Nat} {i:Nat} (hn:vs.Nodup) (h:i<vs.length),at_ vs ds vs[i]=ds.getD i 0
 | v :: vs,[],i,_,_=>by simp[at_]
 | v :: vs,d :: ds,0,_,_=>by rw[zgL]; simp
 | v :: vs,d :: ds,i+1,hn,h=>by
  obtain⟨h1,h2⟩:=qbb.1 hn;have hi:i<vs.length:=by simpa using h
  rw[zgL,show(v :: vs)[i+1]=vs[i]from rfl,show(v == vs[i])=false from qdA (λe=>h1 (e ▸ qam hi)),qdu,zrh h2 hi];rfl
theorem zoO{vs:List Nat}(hn:vs.Nodup)(hl:vs.length=ds.length):vs.map (at_ vs ds)=ds:=by
 refine qcr (by simpa using hl) λi h1 h2=>?_
 rw[List.getElem_map,zrh hn (by simpa using h1),qal,qac h2];rfl
theorem zr3{vs ws:List Nat}:∀ {us cs:List Nat},us.length=cs.length->us.Nodup->(∀ u∈us,u∈vs/\at_ vs ws u=at_ us cs u)->zpD vs ws us cs
 | [],[],_,_,_=>trivial
 | [],c :: cs,h,_,_=>by simp at h
 | u :: us,[],h,_,_=>by simp at h
 | u :: us,c :: cs,hl,hn,h=>by
  obtain⟨h1,h2⟩:=qbb.1 hn;refine⟨⟨(h u qai).1,?_⟩,zr3 (by simpa using hl) h2 λx hx=>⟨(h x (qag _ hx)).1,?_⟩⟩<;> grind [zgL]
def Agr(f g:Fc):Prop:=∀ v,v∈f.vs->v∈g.vs->at_ f.vs f.cs v=at_ g.vs g.cs v
variable{g:Fc}
theorem zpd(hf:FcOk f)(hg:FcOk g):zgs f g 0 f.vs=true↔Agr f g:=by
 have key:∀(m i:Nat),i+m=f.vs.length->(zgs f g i (f.vs.drop i)=true↔∀ v∈f.vs.drop i,v∈g.vs->at_ f.vs f.cs v=at_ g.vs g.cs v):=by
  intro m;induction m with
  | zero=>grind [zgs]
  | succ m ih=>
   intro i h;have hi:i<f.vs.length:=by omega
   rw[qas hi];rw[show zgs f g i (f.vs[i]:: f.vs.drop (i+1))=((match pos g.vs f.vs[i]with | none=>true | some k=>g.cs.getD k 0 == f.cs.getD i 0) && zgs f g (i+1) (f.vs.drop (i+1)))from rfl,qah,ih (i+1) (by omega),List.forall_mem_cons];refine and_congr ?_ Iff.rfl;rw[zrh (zbi hf.inc) hi];cases hp:pos g.vs f.vs[i]with
   | none=>exact⟨λ_ hm=>absurd hm (zjz hp),λ_=>rfl⟩
   | some k=>
    obtain⟨hk,e⟩:=zdE hp;rw[zr7 hp];simp only[qdx];exact⟨λh _=>h.symm,λh=>(h (e ▸ qam hk)).symm⟩
 have:=key f.vs.length 0 (by omega)
 rwa [qa4]at this
def ucs(f g:Fc):List Nat:=(uni f g).map (cdF f g)
theorem zF9{v:Nat}(h:v∈f.vs):cdF f g v=at_ f.vs f.cs v:=by unfold cdF; rw[qdv h,qdt]
theorem zFZ(ha:Agr f g){v:Nat}(h:v∈g.vs):cdF f g v=at_ g.vs g.cs v:=by
 grind [cdF,Agr]
theorem zGF(hf:FcOk f)(hg:FcOk g):zpD (uni f g) (ucs f g) f.vs f.cs:=
 zr3 hf.len (zbi hf.inc) λu hu=>by
  have hm:=(zeL hf hg).2 (.inl hu);exact⟨hm,by unfold ucs; rw[zh1 hm,zF9 hu]⟩
theorem zGk(hf:FcOk f)(hg:FcOk g)(ha:Agr f g):zpD (uni f g) (ucs f g) g.vs g.cs:=
 zr3 hg.len (zbi hg.inc) λu hu=>by
  have hm:=(zeL hf hg).2 (.inr hu);exact⟨hm,by unfold ucs; rw[zh1 hm,zFZ ha hu]⟩
theorem zpG(h:zcF (iL (ucs f g))=true):Dom (uni f g) (ucs f g):=by
 grind [zqd,ucs,zbi,ziI,Go.Dc.Dom]
def zqP(f g:Fc):Bool:=(List.range' 0 (zac (ucs f g))).all λj=>decide (f.at (uni f g) (dig (ucs f g) j)* g.at (uni f g) (dig (ucs f g) j)<=zdv)
def ztm(f g:Fc):Fc:=⟨uni f g,ucs f g,(List.range' 0 (zac (ucs f g))).map λj=>f.at (uni f g) (dig (ucs f g) j)* g.at (uni f g) (dig (ucs f g) j)⟩
def mulR(f g:Fc):S_api_Factor×Int:=bif zcF (iL (ucs f g))then bif zqP f g then((ztm f g).D,0)else(noF,6)else(noF,3)
theorem zwB(hf:FcOk f)(v:Nat):stp f.vs f.cs v<=4096:=by
 rw[zjV hf.len];cases hp:pos f.vs v with
 | none=>exact qar _
 | some k=>
  simp only;by_cases h:k<(zaM f.cs).length
  .rw[qal,qac h];exact znC (λc hc=>(hf.zaF c hc).1) hf.prod _ (qam h)
  simp_all
theorem zhO(a b:List Int):zca a b=some (a,b):=by rfl
theorem zn7(hf:FcOk f)(hD:Dom u c):zAm (iL c) (iL (u.map (stp f.vs f.cs)))=some (zhy c (u.map (stp f.vs f.cs)) 0 (zac c)):=
 zuC hD.zaF hD.le hD.prod (by rw[qak,hD.len]) λs hs=>by
  grind [zwB]
theorem zCe(hf:FcOk f)(hg:FcOk g):zc7 f.D g.D=some (bif zgs f g 0 f.vs then mulR f g else(noF,2)):=by
 unfold zc7 mulR;rw[zjr hf,qaa];simp only[];rw[show((0:Int)== 0)=true from rfl,qdt,zjr hg,qaa];simp only[];rw[show((0:Int)== 0)=true from rfl,qdt,zBK hf hg,qaa];cases ha:zgs f g 0 f.vs with
 | false=>rfl
 | true=>
  have hA:=(zpd hf hg).1 ha;rw[qdt,qdt,zCJ hf hg,qaa];show(zdn (iL (ucs f g))).bind _=_;rw[zzS,qaa];cases hc:zcF (iL (ucs f g))with
  | false=>rfl
  | true=>
   have hD:=zpG hc;rw[qdt,qdt];have hlu:=zAe f g;have hp:=hD.prod;simp only[];rw[show((0:Int)== 0)=true from rfl,qdt,zkh,zdH (by omega),qaa,zqI hf (by omega),qaa,zhO,qaa];simp only[];rw[show iL ((uni f g).map (cdF f g))=iL (ucs f g)from rfl,zn7 hf hD,qaa,<- zgQ];have e1:=zAh hf (r12:=((zac (ucs f g):Nat),0)) (e:=0) hD (zGF hf hg) (zac (ucs f g)) 0 [] (by omega) rfl;rw[qaP]at e1;rw[e1,qaa,zqI hg (by omega),qaa,zhO,qaa];simp only[];rw[zn7 hg hD,qaa];have e2:=zzC hg (r12:=((zac (ucs f g):Nat),0)) (e:=0) hD (zGk hf hg hA) (fa:=λj=>f.at (uni f g) (dig (ucs f g) j)) (λj=>Fc.zFb hf _ _) (zac (ucs f g)) 0 [] (by omega) rfl;rw[e2,qaa];unfold zqP;cases hk:(List.range' 0 (zac (ucs f g))).all λj=>decide (f.at (uni f g) (dig (ucs f g) j)* g.at (uni f g) (dig (ucs f g) j)<=zdv)with
   | false=>rfl
   | true=>rfl
theorem zHO(b:Nat):((b:Int)== 0)=(b == 0):=zxC b 0
theorem zGL{a b:Nat}(hb:¬ b=0)(ha:a<=zdv):zts .i64 (a:Int) (b:Int)=some ((a / b:Nat):Int):=by
 have h1:a<=4611686018427387903:=ha;have h2:a / b<=a:=qdo a b;unfold zts;rw[zHO,qdA hb,qdu,show((a:Int).tdiv (b:Int))=((a / b:Nat):Int)from rfl];exact congrArg some (zar (n:=a / b) (by omega))
def Fc.get(f:Fc)(j:Nat):Nat:=f.ws.getD j 0
theorem Fc.zzT(hf:FcOk f)(k:Nat):f.get k<=zdv:=by
 unfold Fc.get;by_cases h:k<f.ws.length
 .rw[qal,qac h];exact hf.num _ (qam h)
 rw[qal,qbF (by omega)];exact qar _
theorem zEf{i:Nat}(hf:FcOk f)(h:i<zac f.cs):zaE f.D.w (i:Int)=some ((f.get i:Nat):Int):=zfx (by rw[hf.size]; exact h)
def zk8(v:Nat):Nat:=[2,3,1,2,2].getD v 0
theorem zBh(hf:FcOk f)(hg:FcOk g)(hc:zcF (iL (ucs f g))=true)(hk:zqP f g=true):FcOk (ztm f g):=by
 have hD:=zpG hc;refine⟨hD.len,hD.le,hD.zaF,hD.prod,by simp[ztm],ziI f g,zAr,?_⟩;intro x hx;obtain⟨j,hj,rfl⟩:=qaB.1 hx;exact of_decide_eq_true (qcp.1 hk j hj)
section
variable {r4 r6 r8 r10 r12 r14 r16 r18:S_api_Factor}
end
def cof(f:Fc)(us:List Nat):List Nat:=us.map (at_ f.vs f.cs)
structure Sel (f:Fc) (us:List Nat):Prop where
 inc:us.Pairwise (· < ·)
 mem:∀ u∈us,u∈f.vs
theorem zj9:∀ {a b:List Nat},a.Pairwise (· < ·)->b.Pairwise (· < ·)->(∀ x∈a,x∈b)->a.Sublist b
 | [],b,_,_,_=>List.nil_sublist b
 | a :: xs,[],_,_,h=>by have:=h a qai; simp at this
 | a :: xs,b :: bs,ha,hb,h=>by
  obtain⟨ha1,ha2⟩:=qa3.1 ha;obtain⟨hb1,hb2⟩:=qa3.1 hb;rcases qav.1 (h a qai)with e | h1
  .subst e;refine(zj9 ha2 hb2 λx hx=>?_).cons_cons a;rcases qav.1 (h x (qag _ hx))with e | h2
   .have:=ha1 x hx; omega
   exact h2
  refine(zj9 ha hb2 λx hx=>?_).cons b;rcases qav.1 (h x hx)with e | h2
  .have h3:=hb1 a h1;rcases qav.1 hx with e2 | h4
   .omega
   have:=ha1 x h4; omega
  exact h2
theorem zjy:∀ {a b:List Nat},a.Sublist b->(∀ c∈b,1<=c)->zac a<=zac b
 | _,_,.slnil,_=>qap _
 | a,b :: bs,.cons _ h,hb=>by
  have h1:=zjy h λc hc=>hb c (qag _ hc)
  have h2:=qa2 (hb b qai) (qap (zac bs));show zac a<=b * zac bs;omega
 | a :: xs,_ :: bs,.cons_cons _ h,hb=>qa2 (qap a) (zjy h λc hc=>hb c (qag _ hc))
variable{f:Fc}{us:List Nat}
theorem zA8(hf:FcOk f)(hs:Sel f us):(cof f us).Sublist f.cs:=by
 have h:=(zj9 hs.inc hf.inc hs.mem).map (at_ f.vs f.cs)
 rwa [zoO (zbi hf.inc) hf.len]at h
theorem zhl(hf:FcOk f)(hs:Sel f us):Dom us (cof f us):=by
 have h:=zA8 hf hs;exact⟨by simp[cof],zbi hs.inc,λx hx=>hf.zaF x (h.subset hx),qaq h.length_le hf.le,qaq (zjy h λc hc=>(hf.zaF c hc).1) hf.prod⟩
theorem zB5(hs:Sel f us):zpD f.vs f.cs us (cof f us):=
 zr3 (by simp[cof]) (zbi hs.inc) λu hu=>⟨hs.mem u hu,by unfold cof; rw[zh1 hu]⟩
def ix(f:Fc)(us:List Nat)(i:Nat):Nat:=dot (us.map (at_ f.vs (dig f.cs i))) (zaM (cof f us))
theorem zEP(hf:FcOk f)(hs:Sel f us){i:Nat}(h:i<zac f.cs):ix f us i<zac (cof f us):=
 zkJ (zpD.below hf.len (zfQ hf.zaF h) (zB5 hs))
theorem zDP(hf:FcOk f)(hs:Sel f us){i:Nat}:dot (dig f.cs i) (f.vs.map (stp us (cof f us)))=ix f us i:=by
 rw[zqU (zbi hf.inc) (by simp[cof]) (zbi hs.inc)]; rfl
def gop(b:Bool)(x y:Nat):Nat:=bif b then max x y else x+y
def zkd(b:Bool)(f:Fc)(us:List Nat):Nat->Nat->List Nat->Option (List Nat)
 | 0,_,l=>some l
 | m+1,i,l=>bif decide (gop b (l.getD (ix f us i) 0) (f.get i)<=zdv)then zkd b f us m (i+1) (l.set (ix f us i) (gop b (l.getD (ix f us i) 0) (f.get i)))else none
theorem zo1{b:Bool}{f:Fc}{us:List Nat}:∀ {m i:Nat} {l l':List Nat},zkd b f us m i l=some l'->l'.length=l.length
 | 0,_,_,_,h=>by cases h; rfl
 | m+1,i,l,l',h=>by
  unfold zkd at h;cases hd:decide (gop b (l.getD (ix f us i) 0) (f.get i)<=zdv)with
  | false=>rw[hd]at h; cases h
  | true=>rw[hd,qdt]at h; rw[zo1 h,qaI]
theorem zrP{b:Bool}{f:Fc}{us:List Nat}:∀ {m i:Nat} {l l':List Nat},(∀ x∈l,x<=zdv)->zkd b f us m i l=some l'->∀ x∈l',x<=zdv
 | 0,_,_,_,hl,h=>by cases h; exact hl
 | m+1,i,l,l',hl,h=>by
  unfold zkd at h;cases hd:decide (gop b (l.getD (ix f us i) 0) (f.get i)<=zdv)with
  | false=>rw[hd]at h; cases h
  | true=>
   rw[hd,qdt]at h;refine zrP (λx hx=>?_) h;rcases qcZ hx with h1 | h1
   .exact hl x h1
   rw[h1]; exact of_decide_eq_true hd
theorem zqW(hf:FcOk f)(hs:Sel f us):us.length<=12:=by
 have:=(zj9 hs.inc hf.inc hs.mem).length_le;have:=hf.len; have:=hf.le;omega
theorem zBp{b:Bool}{x y:Nat}(hx:x<=zdv)(hy:y<=zdv):(bif b then zhs (x:Int) (y:Int)else w64 ((x:Int)+(y:Int)))=((gop b x y:Nat):Int):=by
 have h1:x<=4611686018427387903:=hx;have h2:y<=4611686018427387903:=hy;cases b with
 | true=>
  show zhs (x:Int) (y:Int)=((max x y:Nat):Int);unfold zhs;split<;>omega
 | false=>
  show w64 ((x:Int)+(y:Int))=((x+y:Nat):Int);rw[zed (by omega) (by omega)]; omega
theorem zAX{l:List Nat}(h:∀ x∈l,x<=zdv)(k:Nat):l.getD k 0<=zdv:=by
 by_cases hk:k<l.length
 .rw[qal,qac hk];exact h _ (qam hk)
 rw[qal,qbF (by omega)];exact qar _
variable{xs:List Nat}{k:Nat}
theorem zHh{y:Nat}(h:k<xs.length):zfl (iL xs) (k:Int) (y:Int)=some (iL (xs.set k y)):=by
 rw[zeV (by rw[zai]; exact h)];simp[iL]
def gat(b:Bool)(f:Fc)(us:List Nat):Option (List Nat):=zkd b f us (zac f.cs) 0 (List.replicate (zac (cof f us)) 0)
theorem zsy{n:Nat}:∀ x∈List.replicate n 0,x<=zdv:=λx hx=>by rw[(qc6.1 hx).2]; exact qar _
theorem zlL(cs:List Nat):∀(i:Nat) (h:i<cs.length),zac (cs.drop i)=cs[i] * zac (cs.drop (i+1)):=by
 intro i h;rw[qas h]; rfl
theorem zAE{f:Fc}(hf:FcOk f){us:List Nat}(hs:Sel f us):∀(n i a:Nat),i<=us.length->us.length - i<n->a * zac ((cof f us).drop i)<=4096->1<=a ->
  zaK (iL us) f.T n (a:Int) (i:Int) (iL ((cof f us).take i ++ List.replicate (us.length - i) 0))=some (((a * zac ((cof f us).drop i):Nat):Int),iL (cof f us))
 | 0,_,_,_,h,_,_=>absurd h (qaj _)
 | n+1,i,a,hi,hn,ha,h1=>by
  have hl:=zqW hf hs;have hcl:(cof f us).length=us.length:=by simp[cof]
  unfold zaK;rw[zai];rcases qaY i us.length with h3 | h3
  .have h3c:i<(cof f us).length:=by omega
   have hcc:=(zhl hf hs).zaF (cof f us)[i] (qam h3c);have hpos:0<zac ((cof f us).drop (i+1)):=zcu λc hc=>(zhl hf hs).zaF c (qcA hc)
   have e0:=zlL (cof f us) i h3c;have ea:a * zac ((cof f us).drop i)=a * (cof f us)[i] * zac ((cof f us).drop (i+1)):=by rw[e0,qaZ]
   have hle:a * (cof f us)[i]<=4096:=qaq (qaJ _ hpos) (ea ▸ ha);have ih:=zAE hf hs n (i+1) (a * (cof f us)[i]) h3 (by omega) (ea ▸ ha) (qc0 (by omega) (by omega));have ht:((cof f us).take i).length=i:=by simp; omega
   have e:List.replicate (us.length - i) 0=0 :: List.replicate (us.length - (i+1)) 0:=by
    rw[show us.length - i=(us.length - (i+1))+1 by omega,qaS]
   rw[qbE h3c,qaF,qaN]at ih;obtain⟨k,hk⟩:=zkp (hs.mem us[i] (qam h3));have ec:at_ f.vs f.cs us[i]=(cof f us)[i]:=by simp[cof]
   rw[zzH h3,qdt,zaW h3,qaa,zi5 hf,qaa,zd8,hk,show f.T.factor=f.D from rfl,ziF hf hk,qaa,ec,e,zdp ht,qaa,zeW ht,qaa,<- qaL,zar (by omega),zaf (by omega),ea];exact ih
  grind [qaH,zac,Nat]
theorem zjQ{g:Nat->Nat}{p:Nat}:∀ {vs:List Nat} {v k:Nat},vs.Nodup->pos vs v=some k->(vs.map g).set k p=vs.map λu=>bif v == u then p else g u
 | [],_,_,_,h=>by cases h
 | u :: us,v,k,hn,h=>by
  obtain⟨h1,h2⟩:=qbb.1 hn;rw[show pos (u :: us) v=bif u == v then some 0 else(pos us v).map (· + 1)from rfl]at h;cases hb:(u == v)with
  | true=>
   grind [qbr]
  | false=>
   rw[hb,qdu]at h;cases hp:pos us v with
   | none=>rw[hp]at h; cases h
   | some j=>
    rw[hp]at h;cases h;rw[qaz,qaz,qcv,zjQ h2 hp,show(v == u)=false from qdA (λe=>ne_of_beq_false hb e.symm),qdu]
theorem zzZ{f:Fc}(hf:FcOk f){us:List Nat}(hs:Sel f us):∀(k n:Nat),k<=us.length->k<n ->
  zaL (iL us) f.T (iL (cof f us)) n ((zac ((cof f us).drop k):Nat):Int) ((k:Int) - 1) (iL (f.vs.map (stp (us.drop k) ((cof f us).drop k))))=some (iL (f.vs.map (stp us (cof f us))))
 | _,0,_,h=>absurd h (qaj _)
 | 0,n+1,_,_=>by
  rfl
 | k+1,n+1,hk,hn=>by
  have hl:=zqW hf hs;have hD:=zhl hf hs;have hcl:(cof f us).length=us.length:=by simp[cof]
  have h3:k<us.length:=hk;have h3c:k<(cof f us).length:=by omega
  have ih:=zzZ hf hs k n (by omega) (by omega);have e0:=zlL (cof f us) k h3c;have hle:zac ((cof f us).drop k)<=4096:=qaq (zh4 (λc hc=>(hD.zaF c hc).1) k) hD.prod;obtain⟨j,hj⟩:=zkp (hs.mem us[k] (qam h3));obtain⟨hj2,_⟩:=zdE hj;have em:(f.vs.map (stp (us.drop (k+1)) ((cof f us).drop (k+1)))).set j (zac ((cof f us).drop (k+1)))=f.vs.map (stp (us.drop k) ((cof f us).drop k)):=by
   rw[zjQ (zbi hf.inc) hj,qas h3,qas h3c];rfl
  unfold zaL;rw[pred_succ,zHx,qdt,zaW h3,qaa,zi5 hf,qaa,zd8,hj,show ixZ (some j)=(j:Int)from rfl,zfx (by simpa using hj2),qaa,zHh (by simpa using hj2),qaa,zaW h3c,qaa,<- qaL,qaV,<- e0,zar (by omega),zed (by omega) (by omega),em];exact ih
theorem zAf{f:Fc}(hf:FcOk f){us:List Nat}(hs:Sel f us){x:Int}:∀(m i:Nat) (l:List Nat),i+m=zac f.cs->l.length=zac (cof f us)->(∀ x∈l,x<=zdv)->
  ∃ z,zaB f.T x (zhy f.cs (f.vs.map (stp us (cof f us))) i m) (iL l)=some (match zkd false f us m i l with | some l'=>.go (iL l')| none=>.brk z)
 | 0,i,l,_,_,_=>⟨[],rfl⟩
 | m+1,i,l,h,hl,hb=>by
  have hi:i<zac f.cs:=by omega
  have hk:=zEP hf hs hi;have hkl:ix f us i<l.length:=by omega
  have g1:=zAX hb (ix f us i);have g2:=Fc.zzT hf i;have e:=zBp (b:=false) g1 g2;rw[qdu]at e;rw[zg1,zDP hf hs];have es:zeF ((l.getD (ix f us i) 0:Nat):Int) ((f.get i:Nat):Int)=some (((gop false (l.getD (ix f us i) 0) (f.get i):Nat):Int),decide (gop false (l.getD (ix f us i) 0) (f.get i)<=zdv)):=by
   unfold zeF;rw[e];refine congrArg (λb:Bool=>some (((gop false (l.getD (ix f us i) 0) (f.get i):Nat):Int),b)) (decide_eq_decide.2 ⟨λh=>?_,λh=>?_⟩)<;> grind
  have e1:∀ ys,zaB f.T x (((i:Int),((ix f us i:Nat):Int),iL (dig f.cs i)):: ys) (iL l)=bif decide (gop false (l.getD (ix f us i) 0) (f.get i)<=zdv)then zaB f.T x ys (iL (l.set (ix f us i) (gop false (l.getD (ix f us i) 0) (f.get i))))else some (.brk (iL (l.set (ix f us i) (gop false (l.getD (ix f us i) 0) (f.get i))))):=by
   intro ys;show(zaE (iL l) ((ix f us i:Nat):Int)).bind _=_;rw[zfx hkl,qaa];simp only[];rw[show zaE f.T.factor.w (i:Int)=some ((f.get i:Nat):Int)from zEf hf hi,qaa,es,qaa]
   grind [zHh]
  rw[e1];unfold zkd;cases hd:decide (gop false (l.getD (ix f us i) 0) (f.get i)<=zdv)with
  | false=>exact⟨_,rfl⟩
  | true=>
   rw[qdt,qdt];refine zAf hf hs m (i+1) _ (by omega) (by rw[qaI]; exact hl) λx hx=>?_<;>grind
theorem zCo(f:Fc):f.vs.map (stp [] [])=List.replicate f.vs.length 0:=by
 simp_all [List.eq_replicate_iff,stp]
theorem zDn(hf:FcOk f)(hs:Sel f us)(v:Nat):stp us (cof f us) v<=4096:=by
 have hD:=zhl hf hs;rw[zjV hD.len];cases hp:pos us v with
 | none=>exact qar _
 | some k=>
  simp only;by_cases h:k<(zaM (cof f us)).length
  .rw[qal,qac h];exact znC (λc hc=>(hD.zaF c hc).1) hD.prod _ (qam h)
  simp_all
theorem zyc(hf:FcOk f)(hs:Sel f us):zbo f.T (iL us)=some (match gat false f us with | some l=>(⟨iL us,iL (cof f us),iL l⟩,0)| none=>(noF,6)):=by
 have hl:=zqW hf hs;have hD:=zhl hf hs;have hp:=hD.prod;have hpf:=hf.prod;have hfl:=hf.le;have hfl2:=hf.len;have hcl:(cof f us).length=us.length:=by simp[cof]
 unfold zbo;have h1:=zAE hf hs (us.length+2) 0 1 (qar _) (by omega) (by rw[qa4]; omega) (qap _);rw[qb0,qaP,qde,zgQ,qa4,qa6]at h1;rw[zai,zdH (by omega),qaa,zap,show zaK (iL us) f.T (us.length+2) 1 0 (List.replicate us.length 0)=_ from h1,qaa];simp only[];rw[zdH (by omega),qaa,show f.T.factor.vars=iL f.vs from rfl,zai,zdH (by omega),qaa,zed (by omega) (by omega),show(((us.length:Int) - 1) - 0+2).toNat=us.length+1 by omega];have h2:=zzZ hf hs us.length (us.length+1) (qap _) (by omega);rw[qbx,qcn (by omega),zCo,zgQ,show zac ([]:List Nat)=1 from rfl]at h2;rw[show zaL (iL us) f.T (iL (cof f us)) (us.length+1) 1 ((us.length:Int) - 1) (List.replicate f.vs.length 0)=_ from h2,qaa,zhO,qaa];simp only[];rw[show f.T.factor.zah=iL f.cs from rfl,zuC hf.zaF hf.le hf.prod (by rw[qak,hf.len]) (λs hs2=>by obtain⟨v,_,rfl⟩:=qaB.1 hs2; exact zDn hf hs v),qaa];obtain⟨z,h3⟩:=zAf hf hs (x:=((zac (cof f us):Nat):Int)) (zac f.cs) 0 (List.replicate (zac (cof f us)) 0) (by omega) (by simp) zsy;rw[<- zgQ,h3,qaa];unfold gat;cases zkd false f us (zac f.cs) 0 (List.replicate (zac (cof f us)) 0)<;> rfl
def rest(f:Fc)(v:Nat):List Nat:=f.vs.filter λu=>!(u == v)
theorem zh5(hf:FcOk f)(v:Nat):Sel f (rest f v):=⟨qbc _ hf.inc,λu hu=>(qaO.1 hu).1⟩
variable{v:Nat}
theorem zqf:∀ {vs:List Nat},v ∉ vs->vs.filter (λu=>!(u == v))=vs:=λ{vs} h=>qc1.2 λu hu=>by
 rw[show(u == v)=false from qdA (λe=>h (e ▸ hu))]; rfl
theorem zqe:∀ {vs:List Nat} {v k:Nat},vs.Nodup->pos vs v=some k->vs.take k ++ vs.drop (k+1)=vs.filter λu=>!(u == v)
 | [],_,_,_,h=>by cases h
 | u :: us,v,k,hn,h=>by
  obtain⟨h1,h2⟩:=qbb.1 hn;rw[show pos (u :: us) v=bif u == v then some 0 else(pos us v).map (· + 1)from rfl]at h;cases hb:(u == v)with
  | true=>
   rw[hb,qdt]at h;cases h;have:u=v:=by simpa using hb
   subst this;rw[qbn (by simp),zqf h1];rfl
  | false=>
   rw[hb,qdu]at h;cases hp:pos us v with
   | none=>rw[hp]at h; cases h
   | some j=>
    rw[hp]at h;cases h;rw[qbo (by rw[hb]; rfl),<- zqe h2 hp];rfl
theorem zG2(h:k<xs.length)(hl:xs.length<1000):zvW (iL xs) (k:Int) (w64 ((k:Int)+1))=some (iL (xs.take k ++ xs.drop (k+1))):=by
 rw[zaf (by omega)];unfold zvW;rw[if_pos ⟨⟨by omega,by omega,by rw[zai]; omega⟩,by rw[zai]; omega⟩,qay,qay];simp[iL]
def zHY(o:Option (List Nat))(f:Fc)(us:List Nat):S_api_Factor×Int:=match o with
 | some l=>(⟨iL us,iL (cof f us),iL l⟩,0)
 | none=>(noF,6)
theorem zoX(hf:FcOk f)(hp:pos f.vs v=some k):zeB 8 (iL f.vs)=some (iL f.vs)/\zvW (iL f.vs) (k:Int) (w64 ((k:Int)+1))=some (iL (rest f v)):=by
 have h1:=hf.le;have h2:=hf.len;obtain⟨hk,_⟩:=zdE hp;refine⟨zg2 (by rw[zai]; omega),?_⟩;rw[zG2 hk (by omega),zqe (zbi hf.inc) hp];rfl
theorem zGt(hf:FcOk f)(hp:pos f.vs v=some k):zb3 f.D (v:Int)=some (zHY (gat false f (rest f v)) f (rest f v)):=by
 obtain⟨h1,h2⟩:=zoX hf hp;unfold zb3 zdr;rw[zjr hf,qaa];simp only[];rw[show((0:Int)== 0)=true from rfl,qdt,zi5 hf,qaa,zd8,hp,show ixZ (some k)=(k:Int)from rfl,show decide ((k:Int)<0)=false from qdw (by omega),qdu,show f.T.factor.vars=iL f.vs from rfl,h1,qaa,h2,qaa,zyc hf (zh5 hf v),qaa];cases gat false f (rest f v)<;> rfl
def gF(f:Fc)(us l:List Nat):Fc:=⟨us,cof f us,l⟩
theorem zFP(hf:FcOk f){l:List Nat}(hs:Sel f us){b:Bool}(h:gat b f us=some l):FcOk (gF f us l):=by
 have hD:=zhl hf hs;exact⟨hD.len,hD.le,hD.zaF,hD.prod,(zo1 h).trans (by simp[gF]),hs.inc,λv hv=>hf.var v (hs.mem v hv),zrP zsy h⟩
end Go.Dc
namespace Go.Dc
open Go Go.Mx Go.Lx Go.Proofs
def zcL(r1:(S_factor_table×Int))(r4:Int)(p2:Int)(q21:Int):List (Int×Int×(List Int))->(List Int)->Option (List Int)
 | [],l5=>some l5
 | y31 :: ys,l5=>(
(zaE r1.1.steps r4).bind λx32=>
(zaE r1.1.factor.w (w64 (y31.2.1+(w64 (p2 * x32))))).bind λx34=>
(zaE l5 y31.1).bind λx36=>
(zfl l5 y31.1 x34).bind λy38=>
zcL r1 r4 p2 q21 ys y38)
def zdf(p0:S_api_Factor)(p1:Int)(p2:Int):Option (S_api_Factor×Int):=
(zbV p0).bind λr1=>
bif (r1.2 == 0)then(
(zat r1.1 p1).bind λr4=>
bif (decide (r4<0))then(
some ((S_api_Factor.mk [] [] []),4))
else(
((bif (decide (p2<0))then(
some true)
else(
(zaE r1.1.factor.zah r4).bind λx8=>
some (decide (x8<=p2))):Option Bool)).bind λv42=>
bif v42 then(
some ((S_api_Factor.mk [] [] []),2))
else(
(zeB 8 r1.1.factor.vars).bind λy11=>
(zvW y11 r4 (w64 (r4+1))).bind λy13=>
(zeB 8 r1.1.factor.zah).bind λy15=>
(zvW y15 r4 (w64 (r4+1))).bind λy17=>
(zaE r1.1.factor.zah r4).bind λx19=>
(zts .i64 (r1.1.factor.w.length:Int) x19).bind λq21=>
(zeR 8 q21 0).bind λy23=>
(zbd r1.1 y13).bind λr25=>
(zca y17 r25).bind λr27=>
(zAm r27.1 r27.2).bind λu29=>
((zcL r1 r4 p2 q21 u29 y23:Option (List Int))).bind λl5=>
some ((S_api_Factor.mk y13 y17 l5),0))))
else(
some ((S_api_Factor.mk [] [] []),r1.2))
theorem zl6{p0:S_api_Factor}{p1:Int}{p2:Int}{r:(S_api_Factor×Int)}(h:zdf p0 p1 p2=some r):Lx.Fn mC 77 [(.agg [(fzE false (eI .i64) p0.vars),(fzE false (eI .i64) p0.zah),(fzE false (eI .i64) p0.w)]),(dI p1),(dI p2)] (.tup [(.agg [(fzE true (eI .i64) r.1.vars),(fzE true (eI .i64) r.1.zah),(fzE true (eI .i64) r.1.w)]),(dI r.2)]):=by
 refine gnO ?_;unfold zdf at h;refine zad ?_;obtain⟨r1,g2,h⟩:=bsM h;refine sSM ?_;refine fDM (zeu g2) ?_;refine cBM h (λ_ h=>?_) λ_ h=>?_
 .exact rHM h
 obtain⟨r4,g5,h⟩:=bsM h;refine sSM ?_;refine fCM (zaR g5) ?_;cases c6:(decide (r4<0))
 .rw[c6,qdu]at h;refine sSM ?_;obtain⟨o1,j1,h⟩:=bsM h;refine usM [5,6,8,10] 5 (λa:Bool=>([(42,(dB a))],[(0,.gone)],[])) λT1 hT1=>?_
  refine EvL.jn T1 (λa=>a=o1) ?_ ?_
  .refine wSM ?_;refine cBM j1 (λ_ j1=>?_) λ_ j1=>?_
   .obtain⟨x8,g9,j1⟩:=bsM j1;refine sXM (ixM g9) ?_;exact zch j1 hT1
   exact zch j1 hT1
  rintro v42 rfl;refine wTM hT1 ?_;cases c10:v42
  .rw[c10,qdu]at h;obtain⟨y11,g12,h⟩:=bsM h;refine sSM ?_;refine EvL.clone (t:=false) (zs:=r1.1.factor.vars) g12 rfl rfl ?_;obtain⟨y13,g14,h⟩:=bsM h;refine sSM ?_;refine EvL.delete (zs:=y11) (t:=true) g14 rfl rfl rfl rfl rfl rfl ?_;refine EvL.zgd (S':=⟨100,[(5,(.ptr 1 0)),(6,(.ptr 2 0)),(8,(.ptr 3 0)),(10,(.ptr 4 0)),(51,(fzE true (eI .i64) y13))],[.gone,.cells [(dI p2)],.cells [zez,zez,zez],.cells [(fzE false (eI .i64) r1.1.factor.vars),(fzE false (eI .i64) r1.1.factor.zah),(fzE false (eI .i64) r1.1.factor.w),(fzE false (eI .i64) r1.1.steps)],.cells [(dI r4)]]⟩) (za8.m0 [.d,.k,.k,.k,.k,.f] rfl (msq (msq (msq (msq (mf rfl (zmU (xs:=y11) (ys:=y13) (t:=true) (zp0 g14) rfl rfl rfl (λ_=>rfl)) trivial))))) ⟨rfl,⟨MB.cs ⟨qds,qds⟩,⟨MB.cs ⟨qds,qds,qds,qds⟩,⟨MB.cs ⟨qds,qds,qds,qds,qds⟩,⟨MB.cs ⟨qds,qds⟩,qds⟩⟩⟩⟩⟩) (zad ?_);obtain⟨y15,g16,h⟩:=bsM h;refine sSM ?_;refine EvL.clone (t:=false) (zs:=r1.1.factor.zah) g16 rfl rfl ?_;obtain⟨y17,g18,h⟩:=bsM h;refine sSM ?_;refine EvL.delete (zs:=y15) (t:=true) g18 rfl rfl rfl rfl rfl rfl ?_;refine EvL.zgd (S':=⟨100,[(5,(.ptr 1 0)),(6,(.ptr 2 0)),(8,(.ptr 3 0)),(10,(.ptr 4 0)),(11,(fzE true (eI .i64) y13)),(59,(fzE true (eI .i64) y17))],[.gone,.cells [(dI p2)],.cells [zez,zez,zez],.cells [(fzE false (eI .i64) r1.1.factor.vars),(fzE false (eI .i64) r1.1.factor.zah),(fzE false (eI .i64) r1.1.factor.w),(fzE false (eI .i64) r1.1.steps)],.cells [(dI r4)]]⟩) (za8.m0 [.d,.k,.k,.k,.k,.f] rfl (msq (msq (msq (msq (msq (mf rfl (zmU (xs:=y15) (ys:=y17) (t:=true) (zp0 g18) rfl rfl rfl (λ_=>rfl)) trivial)))))) ⟨rfl,⟨MB.cs ⟨qds,qds⟩,⟨MB.cs ⟨qds,qds,qds,qds⟩,⟨MB.cs ⟨qds,qds,qds,qds,qds⟩,⟨MB.cs ⟨qds,qds⟩,qds⟩⟩⟩⟩⟩) (zad ?_);obtain⟨x19,g20,q21,g22,y23,g24,h⟩:=zhx h;obtain⟨r25,g26,h⟩:=bsM h;refine sXM (anM (ixM g20) (anM (zqZ g22) (anM (zpP g22) (anM ((zaD g24).1.1) (anM ((zaD g24).1.2) (anM @qbS (miM g24))))))) ?_;refine fCM (zdd g26) ?_;obtain⟨r27,g28,h⟩:=bsM h;refine sSM ?_;refine fDM (zdq g28) ?_;obtain⟨u29,g30,o2,j2,h⟩:=zfo h;obtain⟨T2,hM2⟩:∃ T:(List Int)->List LB,T=(λa=>[.gone,.cells [(dI p2)],.cells [zez,zez,zez],.cells [(fzE false (eI .i64) r1.1.factor.vars),(fzE false (eI .i64) r1.1.factor.zah),(fzE false (eI .i64) r1.1.factor.w),(fzE false (eI .i64) r1.1.steps)],.cells [(dI r4)],.els 1 (a.map ((eI .i64).c true)),.cells [(.sl 5 0 1 (Int.toNat q21) (some (Int.toNat q21)) (Int.toNat q21))]]):=⟨_,rfl⟩;refine EvL.zgd (S':=⟨100,[(5,(.ptr 1 0)),(6,(.ptr 2 0)),(8,(.ptr 3 0)),(10,(.ptr 4 0)),(11,(fzE true (eI .i64) y13)),(12,(fzE true (eI .i64) y17)),(13,(.ptr 6 0)),(76,(.clo 125 [] [(.fptr false ((eL (eI .i64)).c false r27.1)),(.fptr false ((eL (eI .i64)).c false r27.2))]))],T2 y23⟩) (by rw[hM2]; exact wm0 [.k,.k,.k,.k,.k,.k,.k] ⟨MB.same trivial,⟨MB.cs ⟨qds,qds⟩,⟨MB.cs ⟨qds,qds,qds,qds⟩,⟨MB.cs ⟨qds,qds,qds,qds,qds⟩,⟨MB.cs ⟨qds,qds⟩,⟨MB.es (eI .i64) true y23,⟨MB.cs ⟨rfl,qds⟩,qds⟩⟩⟩⟩⟩⟩⟩) ?_;refine EvL.zhd (n0:=7) (zcZ g30) rfl (bm:=.block 1 (.reg true false [⟨some 79,.load none (.s 13),none⟩,⟨some 80,.mov (.s 14),none⟩,⟨some 81,.fld 0 (.s 8),none⟩,⟨some 82,.fld 2 (.s 81),none⟩,⟨some 83,.load none (.s 82),none⟩,⟨some 84,.mov (.s 15),none⟩,⟨some 85,.load none (.s 5),none⟩,⟨some 86,.fld 3 (.s 8),none⟩,⟨some 87,.load none (.s 86),none⟩,⟨some 88,.load none (.s 10),none⟩,⟨some 89,.idxS 1 (.s 87) (.s 88),none⟩,⟨some 90,.load none (.s 89),none⟩,⟨some 91,.bin .mul (.s 85) (.s 90),none⟩,⟨some 92,.bin .add (.s 84) (.s 91),none⟩,⟨some 93,.idxS 1 (.s 83) (.s 92),none⟩,⟨some 94,.load none (.s 93),none⟩,⟨some 95,.idxS 1 (.s 79) (.s 80),none⟩,⟨none,.store 1 (.s 95) (.s 94),none⟩])) rfl T2 (λi a=>zcL r1 r4 p2 q21 (u29.drop i) a=some o2/\a.length=(Int.toNat q21)) (λx L1=>match x with | .normal=>∃ a,o2=a/\a.length=(Int.toNat q21)/\L1=T2 a | .ret=>L1.length=7/\zdw (7+1) L1/\(zje [.cell 6 (some 3),.tmp 7] ((.tup [(.agg [(fzE true (eI .i64) r.1.vars),(fzE true (eI .i64) r.1.zah),(fzE true (eI .i64) r.1.w)]),(dI r.2)]))) .ret ⟨100,[(5,(.ptr 1 0)),(6,(.ptr 2 0)),(8,(.ptr 3 0)),(10,(.ptr 4 0)),(11,(fzE true (eI .i64) y13)),(12,(fzE true (eI .i64) y17)),(13,(.ptr 6 0)),(76,(.clo 125 [] [(.fptr false ((eL (eI .i64)).c false r27.1)),(.fptr false ((eL (eI .i64)).c false r27.2))]))],L1 ++ [.lost]⟩| _=>False) y23 ?_ (qar _) ?_ ?_ ?_ (λd L1 hx=>hx.elim) ?_ ?_ ?_ ?_ ?_ ?_
   .intro a; rw[hM2]; rfl
   .exact⟨(qad rfl),(qad rfl),(qad rfl),(qad rfl),qds,qds,(qad rfl),⟨qds,⟨qds,qds,qds⟩⟩,qds⟩
   .intro a; rw[hM2]; exact⟨qds,⟨qds,qds⟩,⟨qds,qds,qds,qds⟩,⟨qds,qds,qds,qds,qds⟩,⟨qds,qds⟩,(zea (eI .i64) _ _ _),⟨(qad rfl),qds⟩,qds⟩
   .intro x L1 hx;cases x with
    | normal=>obtain⟨a,_,_,rfl⟩:=hx; exact⟨by rw[hM2]; rfl,by rw[hM2]; exact⟨qds,⟨qds,qds⟩,⟨qds,qds,qds,qds⟩,⟨qds,qds,qds,qds,qds⟩,⟨qds,qds⟩,(zea (eI .i64) _ _ _),⟨(qad rfl),qds⟩,qds⟩⟩
    | ret=>exact⟨hx.1,hx.2.1⟩
    | exit id=>exact hx.elim
    | panic d=>exact hx.elim
   .exact⟨j2,zbC g24⟩
   .rintro i l5 y31 args G lpF hy ⟨hi2,el5⟩ ⟨rfl,rfl⟩ hkin;rw[zf4 hy]at hi2;simp only[zcL]at hi2;refine⟨_,_,rfl,rfl,?_⟩;rw[congrFun hM2 l5];refine zad ?_;obtain⟨x32,g33,x34,g35,x36,g37,hi2⟩:=zhx hi2;obtain⟨y38,g39,hi2⟩:=bsM hi2;refine sXM (anM (ixM g33) (anM (ixM g35) (anM el5 (anM (zaZ g37) (anM (ltM el5 g37) (anM (giM g37) (siM g39))))))) ?_;exact⟨T2 y38,by rw[hM2]; rfl,by rw[hM2]; exact za8.mK [.k,.k,.k,.k,.k,.k,.k,.k,.k] rfl rfl qds ⟨MB.same trivial,⟨MB.cs ⟨qds,qds⟩,⟨MB.cs ⟨qds,qds,qds,qds⟩,⟨MB.cs ⟨qds,qds,qds,qds,qds⟩,⟨MB.cs ⟨qds,qds⟩,⟨MB.es (eI .i64) true y38,⟨MB.cs ⟨rfl,qds⟩,⟨.same (hkin _ (by decide)),⟨MB.same (zeP _ _ _ _),qds⟩⟩⟩⟩⟩⟩⟩⟩⟩,y38,⟨hi2,(zaX g39).trans el5⟩,rfl⟩
   .rintro l5 ⟨hi2,el5⟩;rw[qbx]at hi2;simp only[zcL]at hi2;exact⟨l5,(qae hi2).symm,el5,rfl⟩
   .rintro _ ⟨l5,oeq,el5,rfl⟩;have oeq2:=oeq.symm;subst oeq2;rw[congrFun hM2 l5];refine wSM ?_;exact rHM h
   .intro id L1 hx; exact hx.elim
   intro L1 hx; exact hx.2.2
  rw[c10,qdt]at h;refine sSM ?_;exact rHM h
 rw[c6,qdt]at h;refine sSM ?_;exact rHM h
end Go.Dc
namespace Go.Dc
open Go Go.Mx Go.Lx
def ziy:List Nat->Nat->Nat->Nat->Nat
 | [],_,_,i=>i
 | _ :: cs,0,p,i=>p * zac cs+i
 | _ :: cs,k+1,p,i=>(i / zac (cs.eraseIdx k))* zac cs+ziy cs k p (i % zac (cs.eraseIdx k))
theorem zfG{cs:List Nat}(h:∀ c∈cs,1<=c/\c<=8)(k:Nat):∀ c∈cs.eraseIdx k,1<=c/\c<=8:=λc hc=>h c (List.mem_of_mem_eraseIdx hc)
theorem zma:∀ {cs:List Nat} {k p i:Nat},(∀ c∈cs,1<=c/\c<=8)->(hk:k<cs.length)->p<cs[k]->i<zac (cs.eraseIdx k)->ziy cs k p i<zac cs
 | [],k,_,_,_,hk,_,_=>by simp at hk
 | c :: cs,0,p,i,_,_,hp,hi=>by
  have h1:(p+1)* zac cs<=c * zac cs:=qau _ hp
  grind [zac,ziy]
 | c :: cs,k+1,p,i,hc,hk,hp,hi=>by
  have hc2:=λd hd=>hc d (qag c hd)
  have hi2:i<c * zac (cs.eraseIdx k):=hi;have hq:0<zac (cs.eraseIdx k):=zcu (zfG hc2 k);have h1:=zma hc2 (by simpa using hk) hp (qbk i hq);have h2:i / zac (cs.eraseIdx k)<c:=qbL (by rwa [qaV]);have h3:(i / zac (cs.eraseIdx k)+1)* zac cs<=c * zac cs:=qau _ h2
  grind [zac,ziy]
theorem dm1{a b P:Nat}(h:b<P):(a * P+b) / P=a:=by
 grind [qcx,qbX]
theorem dm2{a b P:Nat}(h:b<P):(a * P+b) % P=b:=by
 grind [qbB,qa7]
theorem zni:∀ {cs:List Nat} {k p i:Nat},(∀ c∈cs,1<=c/\c<=8)->(hk:k<cs.length)->p<cs[k]->i<zac (cs.eraseIdx k)->(dig cs (ziy cs k p i)).getD k 0=p/\(dig cs (ziy cs k p i)).eraseIdx k=dig (cs.eraseIdx k) i
 | [],k,_,_,_,hk,_,_=>by simp at hk
 | c :: cs,0,p,i,_,_,hp,hi=>by
  grind [dig,ziy,dm1,dm2]
 | c :: cs,k+1,p,i,hc,hk,hp,hi=>by
  have hc2:=λd hd=>hc d (qag c hd)
  have hq:0<zac (cs.eraseIdx k):=zcu (zfG hc2 k);have h1:=zma hc2 (by simpa using hk) hp (qbk i hq);obtain⟨h2,h3⟩:=zni hc2 (by simpa using hk) hp (qbk i hq)
  grind [dig,ziy,dm1,dm2]
theorem zsP:∀ {cs:List Nat} {k p j:Nat},(∀ c∈cs,1<=c/\c<=8)->(hk:k<cs.length)->j<zac cs->(dig cs j).getD k 0=p->∃ i,i<zac (cs.eraseIdx k)/\ziy cs k p i=j
 | [],k,_,_,_,hk,_,_=>by simp at hk
 | c :: cs,0,p,j,hc,_,hj,hd=>by
  have hp:0<zac cs:=zcu λd hd=>hc d (qag c hd)
  have e:j / zac cs=p:=hd;refine⟨j % zac cs,qbk _ hp,?_⟩<;> grind [qb5,ziy]
 | c :: cs,k+1,p,j,hc,hk,hj,hd=>by
  have hc2:=λd hd=>hc d (qag c hd)
  have hp:0<zac cs:=zcu hc2;have hj2:j<c * zac cs:=hj;have e:(dig cs (j % zac cs)).getD k 0=p:=by rw[<- hd]; rfl
  obtain⟨i,h1,h2⟩:=zsP hc2 (by simpa using hk) (qbk _ hp) e;have ha:j / zac cs<c:=qbL (by rwa [qaV]);refine⟨j / zac cs * zac (cs.eraseIdx k)+i,?_,?_⟩
  .show _<c * zac (cs.eraseIdx k);have h3:(j / zac cs+1)* zac (cs.eraseIdx k)<=c * zac (cs.eraseIdx k):=qau _ ha
   grind
  grind [ziy,dm1,qb5]
theorem zrG:∀ {cs:List Nat} {k p i:Nat},(∀ c∈cs,1<=c/\c<=8)->(hk:k<cs.length)->i<zac (cs.eraseIdx k)->dot (dig (cs.eraseIdx k) i) ((zaM cs).eraseIdx k)+p * (zaM cs).getD k 0=ziy cs k p i
 | [],k,_,_,_,hk,_=>by simp at hk
 | c :: cs,0,p,i,hc,_,hi=>by
  have h:dot (dig cs i) (zaM cs)=i:=ziC (λd hd=>hc d (qag c hd)) hi
  grind [zaM,ziy]
 | c :: cs,k+1,p,i,hc,hk,hi=>by
  have hc2:=λd hd=>hc d (qag c hd)
  have hq:0<zac (cs.eraseIdx k):=zcu (zfG hc2 k);have ih:=zrG (p:=p) hc2 (show k<cs.length by simpa using hk) (qbk i hq)
  grind [zaM,dot,dig,ziy]
theorem zBG{us cs:List Nat}(hn:us.Nodup)(hl:us.length=cs.length):us.map (stp us cs)=zaM cs:=by
 refine qcr (by rw[qak,zg9,hl]) λi h1 h2=>?_
 have hi:i<us.length:=by simpa using h1
 have hp:∀ {xs:List Nat} {i:Nat} (hn:xs.Nodup) (h:i<xs.length),pos xs xs[i]=some i:=by
  intro xs;induction xs<;>grind [pos]
 grind [zjV]
theorem erase_eq{α:Type}(xs:List α)(k:Nat):xs.take k ++ xs.drop (k+1)=xs.eraseIdx k:=(List.eraseIdx_eq_take_drop_succ xs k).symm
theorem zit{α β:Type}(g:α->β)(xs:List α)(k:Nat):(xs.eraseIdx k).map g=(xs.map g).eraseIdx k:=by
 rw[<- erase_eq,<- erase_eq,qa1,List.map_take,List.map_drop]
variable{f:Fc}{v k:Nat}
theorem zmT(hf:FcOk f)(hp:pos f.vs v=some k):rest f v=f.vs.eraseIdx k:=by
 rw[<- erase_eq,zqe (zbi hf.inc) hp]; rfl
theorem zgX(hf:FcOk f)(hp:pos f.vs v=some k):cof f (rest f v)=f.cs.eraseIdx k:=by
 unfold cof;rw[zmT hf hp,zit,zoO (zbi hf.inc) hf.len]
theorem zlg:∀ {cs:List Nat} {k:Nat} (h:k<cs.length),zac cs=cs[k] * zac (cs.eraseIdx k)
 | [],_,h=>by simp at h
 | c :: cs,0,_=>rfl
 | c :: cs,k+1,h=>by
  have hk:k<cs.length:=by simpa using h
  have ih:=zlg hk
  grind [zac]
def fixF(f:Fc)(v k p:Nat):Fc:=⟨rest f v,f.cs.eraseIdx k,(List.range' 0 (zac (f.cs.eraseIdx k))).map λj=>f.get (ziy f.cs k p j)⟩
theorem zAo{f:Fc}(hf:FcOk f){k p:Nat}{q:Int}(hk:k<f.cs.length)(hp:p<f.cs[k]):∀(m i:Nat) (ys:List Nat),i+m=zac (f.cs.eraseIdx k)->ys.length=i ->
  zcL (f.T,0) (k:Int) (p:Int) q (zhy (f.cs.eraseIdx k) ((zaM f.cs).eraseIdx k) i m) (iL (ys ++ List.replicate m 0))=some (iL (ys ++ (List.range' i m).map λj=>f.get (ziy f.cs k p j)))
 | 0,i,ys,_,_=>by simp[zhy,zcL]
 | m+1,i,ys,h,hy=>by
  have hi:i<zac (f.cs.eraseIdx k):=by omega
  have hpf:=hf.prod;have h1:=zma hf.zaF hk hp hi;have h2:=zrG (p:=p) hf.zaF hk hi;have hks:k<(zaM f.cs).length:=by rw[zg9]; exact hk
  rw[zg1];show(zaE (iL (zaM f.cs)) (k:Int)).bind _=_;rw[zfx hks,qaa];simp only[];rw[<- qaL,zar (by omega),<- qby,h2,zar (by omega),show zaE (f.T,(0:Int)).1.factor.w ((ziy f.cs k p i:Nat):Int)=some ((f.get (ziy f.cs k p i):Nat):Int)from zEf hf h1,qaa];rw[qaS,zdp hy,qaa,zeW hy,qaa,show ys ++ f.get (ziy f.cs k p i):: List.replicate m 0=(ys ++ [f.get (ziy f.cs k p i)])++ List.replicate m 0 by simp,zAo hf hk hp m (i+1) _ (by omega) (by simp[hy]),qbW,qaz,qaF,qaN]
theorem zCH(hf:FcOk f){p:Nat}(hv:pos f.vs v=some k)(hk:k<f.cs.length)(hp:p<f.cs[k]):zdf f.D (v:Int) (p:Int)=some ((fixF f v k p).D,0):=by
 have hl:=hf.le;have hpf:=hf.prod;have hck:=hf.zaF f.cs[k] (qam hk);have e0:=zlg hk;have hE:zac (f.cs.eraseIdx k)<=zac f.cs:=by rw[e0]; exact qcO _ (by omega)
 obtain⟨h1,h2⟩:=zoX hf hv;have hn:=zbi hf.inc;have hrl:(rest f v).length<=100:=by
  grind [rest,Go.Dc.FcOk]
 have hel:(f.cs.eraseIdx k).length<=12:=qaq (List.eraseIdx_sublist _ _).length_le hl;unfold zdf;rw[zjr hf,qaa];simp only[]
 rw[show((0:Int)== 0)=true from rfl,qdt,zi5 hf,qaa,zd8,hv,show ixZ (some k)=(k:Int)from rfl,show decide ((k:Int)<0)=false from qdw (by omega),qdu,show decide ((p:Int)<0)=false from qdw (by omega),qdu,show f.T.factor.zah=iL f.cs from rfl,zaW hk,qaa,show decide (((f.cs[k]:Nat):Int)<=(p:Int))=false from qdw (by omega),qaa,qdu,show f.T.factor.vars=iL f.vs from rfl,h1,qaa,h2,qaa,zg2 (by rw[zai]; omega),qaa,zG2 hk (by omega),erase_eq,qaa,qaa,show f.T.factor.w=iL f.ws from rfl,zai,hf.size,zGL (by omega) (by show _<=4611686018427387903; omega),qaa,
  show zac f.cs / f.cs[k]=zac (f.cs.eraseIdx k) by rw[e0,Nat.mul_div_cancel_left _ (by omega)],zdH (by omega),qaa,zqI hf hrl,qaa,zhO,qaa]
 simp only[];have es:(rest f v).map (stp f.vs f.cs)=(zaM f.cs).eraseIdx k:=by rw[zmT hf hv,zit,zBG hn hf.len]
 rw[es,zuC (zfG hf.zaF k) hel (by omega) (by rw[List.length_eraseIdx,List.length_eraseIdx,zg9]) (λs hs=>znC (λc hc=>(hf.zaF c hc).1) hf.prod s (List.mem_of_mem_eraseIdx hs)),qaa];have e2:=zAo hf (q:=((zac (f.cs.eraseIdx k):Nat):Int)) hk hp (zac (f.cs.eraseIdx k)) 0 [] (by omega) rfl
 grind [zgQ,fixF,Go.Dc.Fc.D]
theorem zCL(hf:FcOk f)(hv:pos f.vs v=some k)(hk:k<f.cs.length)(p:Nat):FcOk (fixF f v k p):=by
 have hs:=zh5 hf v;have hD:=zhl hf hs;rw[zgX hf hv]at hD;refine⟨hD.len,hD.le,hD.zaF,hD.prod,by simp[fixF],hs.inc,λu hu=>hf.var u (hs.mem u hu),λw hw=>?_⟩<;> grind [fixF,Fc.zzT]
section
variable {p1 p2 p4:Int} {x9:S_api_Factor}
end
section
variable {p1 p2 p4:Int} {x y:S_api_Factor}
end
section
variable {x:S_api_Factor} {p3:Int}
end
section
variable {y4 l1:List Int} {x:S_api_Factor}
end
section
variable {r6 r8:S_api_Factor} {p3:Int} {y4:List Int}
end
def Fc.val(f:Fc)(s:Nat->Nat):Nat:=f.get (dot (f.vs.map s) (zaM f.cs))
theorem zzR(f:Fc)(u ds:List Nat):f.at u ds=f.val (at_ u ds):=rfl
def Fit(f:Fc)(s:Nat->Nat):Prop:=∀ v∈f.vs,s v<at_ f.vs f.cs v
theorem zjK{s:Nat->Nat}:∀ {us cs:List Nat},us.length=cs.length->us.Nodup->(∀ c∈cs,1<=c/\c<=8)->(∀ v∈us,s v<at_ us cs v)->zc3 cs (us.map s)
 | [],[],_,_,_,_=>trivial
 | [],c :: cs,h,_,_,_=>by simp at h
 | u :: us,[],h,_,_,_=>by simp at h
 | u :: us,c :: cs,hl,hn,hc,h=>by
  obtain⟨h1,h2⟩:=qbb.1 hn;have hu:=h u qai;rw[zgL,qdz,qdt]at hu;refine⟨hu,(hc c qai).2,zjK (by simpa using hl) h2 (λd hd=>hc d (qag _ hd)) λv hv=>?_⟩<;> grind [zgL]
variable{f:Fc}{s:Nat->Nat}
theorem Fit.below(hf:FcOk f)(h:Fit f s):zc3 f.cs (f.vs.map s):=zjK hf.len (zbi hf.inc) hf.zaF h
variable{i:Nat}
theorem zwc(hf:FcOk f)(hi:i<zac f.cs):f.val (at_ f.vs (dig f.cs i))=f.get i:=by
 grind [Fc.val,zoO,zbi,zf0,ziC,Go.Dc.FcOk]
theorem val_congr{f:Fc}{t:Nat->Nat}(h:∀ v∈f.vs,s v=t v):f.val s=f.val t:=by
 unfold Fc.val;rw[qbr h]
theorem get_map{n:Nat}{g:Nat->Nat}(h:i<n):((List.range' 0 n).map g).getD i 0=g i:=by
 simp_all
theorem zp9{g:Fc}(hf:FcOk f)(hg:FcOk g)(hc:zcF (iL (ucs f g))=true)(hs:Fit (ztm f g) s):(ztm f g).val s=f.val s * g.val s:=by
 have hD:=zpG hc;have hb:zc3 (ucs f g) ((uni f g).map s):=zjK hD.len hD.nodup hD.zaF hs;have hlt:=zkJ hb;show((List.range' 0 (zac (ucs f g))).map λj=>f.at (uni f g) (dig (ucs f g) j)* g.at (uni f g) (dig (ucs f g) j)).getD (dot ((uni f g).map s) (zaM (ucs f g))) 0=_;rw[get_map hlt,znx hb,zzR,zzR];rw[val_congr (f:=f) (t:=s) λv hv=>zh1 ((zeL hf hg).2 (.inl hv)),val_congr (f:=g) (t:=s) λv hv=>zh1 ((zeL hf hg).2 (.inr hv))]
def big(b:Bool)(xs:List Nat):Nat:=xs.foldr (gop b) 0
theorem zu4(b:Bool)(x y z:Nat):gop b (gop b x y) z=gop b x (gop b y z):=by
 grind [Go.Dc.gop]
theorem zy9(b:Bool)(x y:Nat):gop b x y=gop b y x:=by
 grind [Go.Dc.gop]
theorem zy4(b:Bool)(x:Nat):gop b x 0=x:=by
 cases b
 .rfl
 exact Nat.max_zero x
theorem zzr(b:Bool)(x:Nat):gop b 0 x=x:=by rw[zy9,zy4]
theorem zrI(b:Bool)(x:Nat)(xs:List Nat):big b (x :: xs)=gop b x (big b xs):=rfl
theorem zAi{b:Bool}{M:Nat}:∀ {xs:List Nat},(∀ x∈xs,x<=M)->big b xs<=xs.length * M
 | [],_=>by simp[big]
 | x :: xs,h=>by
  have h1:=h x qai;have h2:=zAi (b:=b) λy hy=>h y (qag x hy)
  rw[zrI,qaC,qaQ,qa6]
  grind [Go.Dc.gop]
def fib(f:Fc)(us:List Nat)(m i j:Nat):List Nat:=((List.range' i m).filter λi=>ix f us i == j).map f.get
theorem zyX(f:Fc)(us:List Nat)(m i j:Nat):fib f us (m+1) i j=bif ix f us i == j then f.get i :: fib f us m (i+1) j else fib f us m (i+1) j:=by
 grind [fib,qbW]
theorem zlS{b:Bool}{f:Fc}{us:List Nat}{M:Nat}(hM:∀ i,f.get i<=M):∀ {m i K:Nat} {l:List Nat},(∀ j,l.getD j 0<=K)->K+m * M<=zdv->(∀ k,i<=k->k<i+m->ix f us k<l.length)->
  ∃ l',zkd b f us m i l=some l'/\l'.length=l.length/\∀ j,j<l.length->l'.getD j 0=gop b (l.getD j 0) (big b (fib f us m i j))
 | 0,i,K,l,_,_,_=>⟨l,rfl,rfl,λj _=>by
   grind [fib,big,Go.Dc.gop]⟩
 | m+1,i,K,l,hl,hK,hx=>by
  have hi:=hx i (qap _) (by omega);have h1:=hl (ix f us i);have h2:=hM i;rw[qaQ,qa6]at hK;have h3:gop b (l.getD (ix f us i) 0) (f.get i)<=K+M:=by
   grind [Go.Dc.gop]
  have hset:∀ j,(l.set (ix f us i) (gop b (l.getD (ix f us i) 0) (f.get i))).getD j 0=bif ix f us i == j then gop b (l.getD (ix f us i) 0) (f.get i)else l.getD j 0:=by
   grind
  obtain⟨l',g1,g2,g3⟩:=zlS (b:=b) (us:=us) hM (m:=m) (i:=i+1) (K:=K+M) (l:=l.set (ix f us i) (gop b (l.getD (ix f us i) 0) (f.get i))) (λj=>by
   grind) (by omega) (λk a c=>by rw[qaI]; exact hx k (by omega) (by omega))
  grind [zkd,zyX,zu4,big]
theorem zrZ(b:Bool)(hf:FcOk f){us:List Nat}(hs:Sel f us){M:Nat}(hM:∀ i,f.get i<=M)(hB:zac f.cs * M<=zdv):
  gat b f us=some ((List.range' 0 (zac (cof f us))).map λj=>big b (fib f us (zac f.cs) 0 j)):=by
 obtain⟨l',g1,g2,g3⟩:=zlS (b:=b) (us:=us) hM (m:=zac f.cs) (i:=0) (K:=0) (l:=List.replicate (zac (cof f us)) 0) (λj=>by
  grind) (by omega) (λk _ hk=>by rw[qb4]; exact zEP hf hs (by omega))
 unfold gat;rw[g1];refine congrArg some (qcr (by rw[g2]; simp) λj a c=>?_)<;> grind [zzr]
def upd(s:Nat->Nat)(v p:Nat)(u:Nat):Nat:=bif u == v then p else s u
theorem zyT(s:Nat->Nat)(v p:Nat):upd s v p v=p:=by unfold upd; rw[qdz,qdt]
variable{v p:Nat}
theorem zAg{u:Nat}(h:u≠v):upd s v p u=s u:=by unfold upd; rw[qdA h,qdu]
theorem zBa{u:Nat}(h:u∈rest f v):u≠v:=by
 grind [Go.Dc.rest]
variable{k:Nat}
theorem znI(hf:FcOk f)(hv:pos f.vs v=some k)(s:Nat->Nat)(p:Nat):(f.vs.map (upd s v p)).eraseIdx k=(rest f v).map s:=by
 rw[<- zit,<- zmT hf hv]
 grind [qbr,zBa,upd]
theorem zoq{cs:List Nat}(hc:∀ c∈cs,1<=c/\c<=8)(h:i<zac (cs.eraseIdx k)):dot (dig (cs.eraseIdx k) i) (zaM (cs.eraseIdx k))=i:=ziC (zfG hc k) h
theorem zxE{cs ds:List Nat}(hc:∀ c∈cs,1<=c/\c<=8)(hk:k<cs.length)(hp:p<cs[k])(hb:zc3 cs ds)(hd:ds.getD k 0=p):ziy cs k p (dot (ds.eraseIdx k) (zaM (cs.eraseIdx k)))=dot ds (zaM cs)/\dot (ds.eraseIdx k) (zaM (cs.eraseIdx k))<zac (cs.eraseIdx k):=by
 have hlt:=zkJ hb;have hdig:=znx hb;obtain⟨j,h1,h2⟩:=zsP hc hk hlt (p:=p) (by rw[hdig]; exact hd)
 grind [zni,zoq]
theorem zxY(hv:pos f.vs v=some k)(s:Nat->Nat)(p:Nat):(f.vs.map (upd s v p)).getD k 0=p:=by
 grind [zdE,upd]
theorem zpF(hf:FcOk f)(hv:pos f.vs v=some k)(hk:k<f.cs.length):at_ f.vs f.cs v=f.cs[k]:=by
 simp_all [zr7]
theorem zBX{f:Fc}(hf:FcOk f){v:Nat}(hv:pos f.vs v=some k)(hk:k<f.cs.length)(hp:p<f.cs[k])(hs:∀ u∈rest f v,s u<at_ f.vs f.cs u):Fit f (upd s v p):=by
 grind [zpF,upd,Go.Dc.Fit,Go.Dc.rest]
theorem zlJ:∀ {cs:List Nat} {k p q i:Nat},(∀ c∈cs,1<=c/\c<=8)->k<cs.length->p<q->ziy cs k p i<ziy cs k q i
 | [],k,_,_,_,_,hk,_=>by simp at hk
 | c :: cs,0,p,q,i,hc,_,h=>by
  have hp:0<zac cs:=zcu λd hd=>hc d (qag c hd)
  have:=Nat.mul_lt_mul_of_pos_right h hp
  grind [Go.Dc.ziy]
 | c :: cs,k+1,p,q,i,hc,hk,h=>by
  have:=zlJ (i:=i % zac (cs.eraseIdx k)) (λd hd=>hc d (qag c hd)) (show k<cs.length by simpa using hk) h
  grind [ziy]
theorem zwN(hf:FcOk f)(hv:pos f.vs v=some k):ix f (rest f v) i=dot ((dig f.cs i).eraseIdx k) (zaM (f.cs.eraseIdx k)):=by
 unfold ix;rw[zgX hf hv,zmT hf hv,zit,zoO (zbi hf.inc) (by rw[zf0,hf.len])]
theorem zri(hf:FcOk f)(hv:pos f.vs v=some k)(hk:k<f.cs.length){j:Nat}(hj:j<zac (f.cs.eraseIdx k)):fib f (rest f v) (zac f.cs) 0 j=(List.range' 0 f.cs[k]).map λp=>f.get (ziy f.cs k p j):=by
 have e:((List.range' 0 (zac f.cs)).filter λi=>ix f (rest f v) i == j)=(List.range' 0 f.cs[k]).map λp=>ziy f.cs k p j:=by
  refine ziM (qbc _ qc8) (List.pairwise_map.2 (List.Pairwise.imp (λh=>zlJ hf.zaF hk h) qc8)) λx=>?_
  simp only[qaO,qcT,qaB,qdx];constructor
  .rintro⟨⟨_,h1⟩,h2⟩;have hx:x<zac f.cs:=by omega
   have hb:=zfQ hf.zaF hx;have hp:(dig f.cs x).getD k 0<f.cs[k]:=by
    have hkd:k<(dig f.cs x).length:=by rw[zf0]; exact hk
    have hm:f.vs[k]'(by rw[hf.len]; exact hk)∈f.vs:=qam _;have h3:=(znH hf.len hb hm).1
    grind [zrh,zbi,Go.Dc.FcOk]
   refine⟨(dig f.cs x).getD k 0,⟨qar _,by omega⟩,?_⟩;obtain⟨h3,_⟩:=zxE hf.zaF hk hp hb rfl
   grind [zwN,ziC,Go.Dc.FcOk]
  rintro⟨p,⟨_,h1⟩,rfl⟩;have hp:p<f.cs[k]:=by omega
  refine⟨⟨qar _,by have:=zma hf.zaF hk hp hj; omega⟩,?_⟩
  grind [zwN,zni,zoq,Go.Dc.FcOk]
 unfold fib;rw[e,qcQ];rfl
theorem zCy(b:Bool){f:Fc}(hf:FcOk f){v:Nat}(hv:pos f.vs v=some k)(hk:k<f.cs.length){l:List Nat}{M:Nat}(hM:∀ i,f.get i<=M)(hB:zac f.cs * M<=zdv)(hg:gat b f (rest f v)=some l)(hs:∀ u∈rest f v,s u<at_ f.vs f.cs u):
  (gF f (rest f v) l).val s=big b ((List.range' 0 f.cs[k]).map λp=>f.val (upd s v p)):=by
 have h0:=zrZ b hf (zh5 hf v) hM hB;rw[hg,zgX hf hv]at h0;have hl:=qae h0;have hc0:0<f.cs[k]:=(hf.zaF _ (qam hk)).1;have key:∀ p,p<f.cs[k]->ziy f.cs k p (dot ((rest f v).map s) (zaM (f.cs.eraseIdx k)))=dot (f.vs.map (upd s v p)) (zaM f.cs)/\dot ((rest f v).map s) (zaM (f.cs.eraseIdx k))<zac (f.cs.eraseIdx k):=by
  intro p hp;have h:=zxE hf.zaF hk hp ((zBX hf hv hk hp hs).below hf) (zxY hv s p)
  grind [znI]
 have hj:=(key 0 hc0).2;show l.getD (dot ((rest f v).map s) (zaM (cof f (rest f v)))) 0=_;rw[zgX hf hv,hl,get_map hj,zri hf hv hk hj];congr 1
 refine qbr λp hp=>?_
 have:=qcT.1 hp;rw[(key p (by omega)).1];rfl
end Go.Dc
namespace Go.Dc
open Go Go.Mx Go.Lx Go.Proofs
def zcO(r1:(S_net_network×Int)):Nat->Int->(List S_api_Factor)->Option (List S_api_Factor)
 | 0,_,_=>none
 | n+1,v23,l2=>(
bif (decide (v23<(((Int.toNat (r1.1.net.nodes.length:Int)):Nat):Int)))then(
(zbP r1.1 v23).bind λr7=>
(zaE l2 v23).bind λx9=>
(zfl l2 v23 r7).bind λy11=>
zcO r1 n (w64 (v23+1)) y11)
else(
some l2))
def zd0(p0:S_api_Net):Option ((List S_api_Factor)×Int):=
(zdu p0).bind λr1=>
bif (r1.2 == 0)then(
(zeR 72 (r1.1.net.nodes.length:Int) (S_api_Factor.mk [] [] [])).bind λy4=>
((zcO r1 ((((Int.toNat (r1.1.net.nodes.length:Int)):Nat):Int) - 0+2:Int).toNat 0 y4:Option (List S_api_Factor))).bind λl2=>
some (l2,0))
else(
some ([],r1.2))
theorem zk3{p0:S_api_Net}{r:((List S_api_Factor)×Int)}(h:zd0 p0=some r):Lx.Fn mC 75 [(.agg [(dI p0.grain),(fzE false zaa p0.nodes)])] (.tup [(fzE true zab r.1),(dI r.2)]):=by
 refine gnO ?_;unfold zd0 at h;refine zad ?_;obtain⟨r1,g2,h⟩:=bsM h;refine sSM ?_;refine fDM (zjR g2) ?_;refine cBM h (λ_ h=>?_) λ_ h=>?_
 .exact rHM h
 obtain⟨y4,g5,h⟩:=bsM h;try simp only[rnA,Nat.reduceEqDiff,Nat.reduceLT,Nat.reduceAdd,reduceCtorEq,zbM,(zaD g5).1.1,(zaD g5).1.2,qbS,qb4]
 obtain⟨o1,j1,h⟩:=bsM h;refine usM [6] 3 (λa:(List S_api_Factor)=>([],[(0,.gone),(1,.gone),(2,.els 3 (a.map (zab.c true)))],[])) λT1 hT1=>?_
 refine EvL.jn T1 (λa=>a=o1/\a.length=(Int.toNat (r1.1.net.nodes.length:Int))) ?_ ?_
 .refine wSM ?_;refine usM [4,6,22] 3 (λa:(Int×(List S_api_Factor))=>([(23,(dI a.1))],[(0,.gone),(2,.els 3 (a.2.map (zab.c true)))],[])) λT2 hT2=>?_
  refine EvL.rounds (α:=(Int×(List S_api_Factor))) T2 (λn a=>zcO r1 n a.1 a.2=some o1/\a.2.length=(Int.toNat (r1.1.net.nodes.length:Int))) ((((Int.toNat (r1.1.net.nodes.length:Int)):Nat):Int) - 0+2:Int).toNat (0,y4) (by rw[hT2]; exact wm0 [.d,.k,.k] ⟨rfl,⟨MB.cs ⟨qds,qds,qds,qds,qds,qds⟩,⟨MB.zFR (zBb (e:=zab) (t:=true) g5 (.cons (.fr (zkL (eI .i64))) (.cons (.fr (zkL (eI .i64))) (.cons (.fr (zkL (eI .i64))) .nil)))),qds⟩⟩⟩) ⟨j1,zbC g5⟩ (λ_ h=>nomatch (show(none:Option (List S_api_Factor))=some o1 from h.1)) ?_;rintro n ⟨v23,l2⟩ ⟨j1,el2⟩;simp only[zcO]at j1;refine wTM hT2 ?_;refine cBM j1 (λ_ j1=>?_) λ_ j1=>?_
  .obtain rfl:=qae j1;exact zcr hT1 _ ⟨rfl,el2⟩
  obtain⟨r7,g8,j1⟩:=bsM j1;refine sSM ?_;refine fCM (zgF g8) ?_;obtain⟨x9,g10,y11,g12,j1⟩:=zfo j1;refine zHo @zde el2 (zaZ g10) (ltM el2 g10) (zcD g10 (zab.c true)) (show(l2.map (zab.c true)).set v23.toNat [(fzE true (eI .i64) r7.vars),(fzE true (eI .i64) r7.zah),(fzE true (eI .i64) r7.w)]=y11.map (zab.c true)from zeq g12 (zab.c true)) ?_;exact zcr hT2 ((w64 (v23+1)),y11) ⟨j1,(zaX g12).trans el2⟩
 rintro l2 ⟨rfl,el2⟩;refine wTM hT1 ?_;exact rHM h
end Go.Dc
namespace Go.Dc
open Go Go.Mx Go.Lx
structure Std (f:Fc) (M:Nat):Prop where
 ok:FcOk f
 cs:f.cs=f.vs.map zk8
 var:∀ v∈f.vs,v<5
 le:∀ i,f.get i<=M
theorem zyw:∀ v,v<5->1<=zk8 v/\zk8 v<=8:=by decide
theorem zyP:[0,1,2,3,4].Pairwise (· < ·):=by decide
variable{v:Nat}
theorem zy2(h:v<5):v∈[0,1,2,3,4]:=by
 have:∀ v,v<5->v∈[0,1,2,3,4]:=by decide
 exact this v h
theorem zuM{vs:List Nat}(hi:vs.Pairwise (· < ·))(hv:∀ v∈vs,v<5):zac (vs.map zk8)<=24/\vs.length<=5:=by
 have hs:=zj9 hi zyP λv h=>zy2 (hv v h)
 refine⟨?_,hs.length_le⟩;have:=zjy (hs.map zk8) (by decide);exact this
theorem zuF{vs:List Nat}(hv:∀ v∈vs,v<5):∀ c∈vs.map zk8,1<=c/\c<=8:=by
 intro c hc;obtain⟨v,h,rfl⟩:=qaB.1 hc;exact zyw v (hv v h)
theorem ztc{vs:List Nat}(hi:vs.Pairwise (· < ·))(hv:∀ v∈vs,v<5):zcF (iL (vs.map zk8))=true:=by
 obtain⟨h1,h2⟩:=zuM hi hv;unfold zcF;rw[zai,qak,qdv (by omega),qbU];exact zic (zuF hv) (by omega)
variable{f:Fc}{M:Nat}
theorem Std.at(h:Std f M)(hv:v∈f.vs):at_ f.vs f.cs v=zk8 v:=by rw[h.cs,zh1 hv]
variable{N:Nat}
theorem Std.mono(h:Std f M)(hl:M<=N):Std f N:=⟨h.ok,h.cs,h.var,λi=>qaq (h.le i) hl⟩
theorem Std.agr{g:Fc}(hf:Std f M)(hg:Std g N):Agr f g:=λv h1 h2=>by rw[hf.at h1,hg.at h2]
theorem Std.zaF(h:Std f M){k:Nat}(hv:pos f.vs v=some k)(hk:k<f.cs.length):f.cs[k]=zk8 v:=by
 obtain⟨h1,e⟩:=zdE hv;rw[<- zpF h.ok hv hk,h.at (e ▸ qam h1)]
theorem Std.ucs{g:Fc}(hf:Std f M)(hg:Std g N):ucs f g=(uni f g).map zk8:=by
 refine qbr λv hv=>?_
 rcases(zeL hf.ok hg.ok).1 hv with h | h
 .rw[zF9 h,hf.at h]
 rw[zFZ (hf.agr hg) h,hg.at h]
theorem Std.uv{f g:Fc}(hf:Std f M)(hg:Std g N):∀ v∈uni f g,v<5:=λv hv=>((zeL hf.ok hg.ok).1 hv).elim (hf.var v) (hg.var v)
theorem Std.zah{g:Fc}(hf:Std f M)(hg:Std g N):zcF (iL (Go.Dc.ucs f g))=true:=by
 rw[hf.ucs hg];exact ztc (ziI f g) (hf.uv hg)
theorem zgW{l:List Nat}(h:∀ x∈l,x<=M)(k:Nat):l.getD k 0<=M:=by
 by_cases hk:k<l.length
 .rw[qal,qac hk];exact h _ (qam hk)
 rw[qal,qbF (by omega)];exact qar _
end Go.Dc
namespace Go.Dc
open Go Go.Mx Go.Lx Go.Proofs
def zaQ(p0:(List S_api_Factor)):Nat->Int->(List Int)->(List Int)->(List Int)->Option ((List Int)×(List Int)×(List Int))
 | 0,_,_,_,_=>none
 | n+1,v9,b1_0,b1_1,b1_2=>(
bif (decide (v9<(p0.length:Int)))then(
(zaE p0 v9).bind λx4=>
(zc7 (S_api_Factor.mk b1_0 b1_1 b1_2) x4).bind λr6=>
zaQ p0 n (w64 (v9+1)) r6.1.vars r6.1.zah r6.1.w)
else(
some (b1_0,b1_1,b1_2)))
def zbf(p0:(List S_api_Factor)):Option S_api_Factor:=
(zfp).bind λr1=>
((zaQ p0 ((p0.length:Int) - 0+2:Int).toNat 0 r1.vars r1.zah r1.w:Option (((List Int)×(List Int)×(List Int))))).bind λo=>match o with
|(b1_0,b1_1,b1_2)=>(
some (S_api_Factor.mk b1_0 b1_1 b1_2))
theorem zeD{p0:(List S_api_Factor)}{r:S_api_Factor}(h:zbf p0=some r):Lx.Fn mC 81 [(fzE false zab p0)] (.agg [(fzE true (eI .i64) r.vars),(fzE true (eI .i64) r.zah),(fzE true (eI .i64) r.w)]):=by
 refine gnO ?_;unfold zbf at h;refine zad ?_;obtain⟨r1,g2,h⟩:=bsM h;refine sSM ?_;refine fCM (zmn g2) ?_;obtain⟨o1,j1,h⟩:=bsM h;refine usM [2,3] 2 (λa:((List Int)×(List Int)×(List Int))=>([],[(1,.cells [(fzE true (eI .i64) a.1),(fzE true (eI .i64) a.2.1),(fzE true (eI .i64) a.2.2)])],[])) λT1 hT1=>?_
 refine EvL.jn T1 (λa=>a=o1) ?_ ?_
 .refine wSM ?_;refine usM [2,3,7,8] 2 (λa:(Int×(List Int)×(List Int)×(List Int))=>([(9,(dI a.1))],[(1,.cells [(fzE true (eI .i64) a.2.1),(fzE true (eI .i64) a.2.2.1),(fzE true (eI .i64) a.2.2.2)])],[])) λT2 hT2=>?_
  refine rdM hT2 (λn a=>zaQ p0 n a.1 a.2.1 a.2.2.1 a.2.2.2=some o1) (0,r1.vars,r1.zah,r1.w) j1 ?_;rintro n ⟨v9,b1_0,b1_1,b1_2⟩ j1;simp only[zaQ]at j1;refine wTM hT2 ?_;refine cBM j1 (λ_ j1=>?_) λ_ j1=>?_
  .exact zch j1 hT1
  obtain⟨x4,g5,r6,g7,j1⟩:=zfo j1;refine sXM (anM @zde (zaq (n:=3) (e:=zab) rfl g5)) ?_;refine fCM (zm4 g7) ?_;exact zcr hT2 ((w64 (v9+1)),r6.1.vars,r6.1.zah,r6.1.w) j1
 rintro⟨b1_0,b1_1,b1_2⟩ rfl;dsimp only at h;refine wTM hT1 ?_;exact rHM h
structure StR where
 count:Int
 product:S_api_Factor
abbrev StI:Type:=StR×List S_api_Factor
def zfL(q:S_eliminate_query):List S_api_Factor->List Int->Option (List StI)
 | l,[]=>(zbf l).bind λp=>some [(⟨(l.length:Int),p⟩,l)]
 | l,x :: xs=>(zaE q.known x).bind λkx=>bif decide (0<=kx)then zfL q l xs else(zdi l x).bind λr=>bif (r.1.length:Int)== 0 then zfL q l xs else
   (zbf r.1).bind λp=>(zb3 p x).bind λy=>(zcX 72 r.2 [y.1]).bind λl'=>(zfL q l' xs).bind λu=>some ((⟨(r.1.length:Int),p⟩,l):: u)
def zor(q:S_eliminate_query)(l:List S_api_Factor)(order:List Int):Option (List StI):=(zeT order).bind λ_=>zfL q l order
def stG(l:List S_api_Factor)(u:List StI)(i:Nat):LB:=.cells [fzE false zab (match u[i]? with | some y=>y.2 | none=>l)]
theorem zv9(l:List S_api_Factor)(u:List StI)(i:Nat)(kp:Nat->Bool):LB.kin kp (stG l u i):=⟨qds,qds⟩
theorem zAA(l:List S_api_Factor)(u:List StI)(i n:Nat):LB.sc n (stG l u i):=⟨qds,qds⟩
theorem zhk{q:S_eliminate_query}:∀ {xs:List Int} {l:List S_api_Factor} {u:List StI},zfL q l xs=some u->∃ y u',u=y :: u'/\y.2=l
 | [],l,u,h=>by
  obtain⟨p,_,h⟩:=bsM h;cases h;exact⟨_,[],rfl,rfl⟩
 | x :: xs,l,u,h=>by
  unfold zfL at h;obtain⟨kx,_,h⟩:=bsM h;cases h1:decide (0<=kx)with
  | true=>rw[h1,qdt]at h; exact zhk h
  | false=>
  rw[h1,qdu]at h;obtain⟨r,_,h⟩:=bsM h;cases h2:((r.1.length:Int)== 0)with
  | true=>rw[h2,qdt]at h; exact zhk h
  | false=>
  rw[h2,qdu]at h;obtain⟨p,_,y,_,l',_,h⟩:=zhx h;obtain⟨u',_,h⟩:=bsM h;cases h;exact⟨_,u',rfl,rfl⟩
variable{xs:List Int}{l:List S_api_Factor}{u:List StI}
theorem zrn{q:S_eliminate_query}(h:zfL q l xs=some u):stG l u 0=.cells [fzE false zab l]:=by
 obtain⟨y,u',rfl,e⟩:=zhk h;show LB.cells [fzE false zab y.2]=_;rw[e]
theorem zuY{q:S_eliminate_query}(h:zor q l xs=some u):stG l u 0=.cells [fzE false zab l]:=by
 obtain⟨_,_,h⟩:=bsM h;exact zrn h
def stY(y:StI)(n0:Nat)(args:List D)(G:List LB):Prop:=
 args=[.agg [dI y.1.count,fzE true (eI .i64) y.1.product.vars,fzE true (eI .i64) y.1.product.zah,fzE true (eI .i64) y.1.product.w]]/\∃ gB,(∀ kp,LB.kin kp gB)/\G=[.gone,gB]
def zDv:C:=.reg false false [⟨some 16,.idxS 1 (.s 12) (.s 14),none⟩,
 ⟨some 17,.load none (.s 16),none⟩,
 ⟨some 6,.alloc [(.int .i64 0)],none⟩,
 ⟨none,.store 1 (.s 6) (.s 17),none⟩]
def zEF:C:=.seq (.reg false false [⟨some 18,.fld 2 (.s 2),none⟩,
 ⟨some 19,.load none (.s 18),none⟩,
 ⟨some 20,.load none (.s 6),none⟩,
 ⟨some 21,.idxS 1 (.s 19) (.s 20),none⟩,
 ⟨some 22,.load none (.s 21),none⟩,
 ⟨some 23,.bin .geq (.s 22) (.c (.int .i64 0)),none⟩])
 (.cond (.s 23) (.exit 1)
 (.skip))
def zFi:C:=.reg false false [⟨some 25,.load none (.s 3),none⟩,
 ⟨some 26,.clo 80 [] [(.s 6)],none⟩,
 ⟨some 27,.call 79 [(.s 25),(.s 26)],none⟩,
 ⟨some 24,.mov (.s 27),none⟩,
 ⟨some 28,.ext (.s 24) 0,none⟩,
 ⟨some 29,.ext (.s 24) 1,none⟩,
 ⟨some 7,.mov (.s 28),none⟩,
 ⟨some 8,.mov (.s 29),none⟩]
def zDy:C:=.seq (.reg false false [⟨some 30,.mov (.s 7),none⟩,
 ⟨some 31,.len (.s 30),none⟩,
 ⟨some 32,.bin .eql (.s 31) (.c (.int .i64 0)),none⟩])
 (.cond (.s 32) (.exit 1)
 (.skip))
def zEj:C:=.reg false false [⟨some 33,.mov (.s 7),none⟩,
 ⟨some 34,.call 81 [(.s 33)],none⟩,
 ⟨some 9,.alloc [(.slice none 0 0),(.slice none 0 0),(.slice none 0 0)],none⟩,
 ⟨none,.store 3 (.s 9) (.s 34),none⟩]
def zE1:C:=.seq (.reg false false [⟨some 35,.mov (.s 0),none⟩,
 ⟨some 36,.mov (.s 7),none⟩,
 ⟨some 37,.len (.s 36),none⟩,
 ⟨some 38,.load (some 3) (.s 9),none⟩,
 ⟨some 39,.build [(.int .i64 0),(.slice none 0 0),(.slice none 0 0),(.slice none 0 0)] [(0,1,(.s 37)),(1,3,(.s 38))],none⟩,
 ⟨some 40,.zej (.s 35) [(.s 39)],none⟩,
 ⟨some 41,.un .not (.s 40),none⟩])
 (.cond (.s 41) (.ret)
 (.skip))
def zDV:C:=.reg false false [⟨some 43,.load (some 3) (.s 9),none⟩,
 ⟨some 44,.load none (.s 6),none⟩,
 ⟨some 45,.call 82 [(.s 43),(.s 44)],none⟩,
 ⟨some 42,.mov (.s 45),none⟩,
 ⟨some 46,.ext (.s 42) 0,none⟩,
 ⟨some 47,.ext (.s 42) 1,none⟩,
 ⟨some 10,.alloc [(.slice none 0 0),(.slice none 0 0),(.slice none 0 0)],none⟩,
 ⟨none,.store 3 (.s 10) (.s 46),none⟩,
 ⟨some 11,.mov (.s 47),none⟩]
def zDJ:C:=.reg false false [⟨some 48,.mov (.s 8),none⟩,
 ⟨some 49,.load (some 3) (.s 10),none⟩,
 ⟨some 50,.bsl 3 1 [(.slice none 0 0),(.slice none 0 0),(.slice none 0 0)] [(0,(.s 49))],none⟩,
 ⟨some 51,.app 3 72 (.s 48) (.s 50),none⟩,
 ⟨none,.store 1 (.s 3) (.s 51),none⟩]
def zEY:C:=.seq zDv (.seq zEF (.seq zFi (.seq zDy (.seq zEj (.seq zE1 (.seq zDV zDJ))))))
def zxh:C:=.seq (.reg false false [⟨some 15,.bin .lss (.s 14) (.s 13),none⟩]) (.seq (.cond (.s 15) (.skip)
 (.exit 0)) (.seq (.scope (.block 1 zEY)) (.reg false false [⟨some 52,.bin .add (.s 14) (.c (.int .i64 1)),none⟩,
 ⟨some 14,.mov (.s 52),none⟩])))
def zAv:C:=.reg true false [⟨some 53,.mov (.s 0),none⟩,
 ⟨some 54,.load none (.s 3),none⟩,
 ⟨some 55,.len (.s 54),none⟩,
 ⟨some 56,.load none (.s 3),none⟩,
 ⟨some 57,.call 81 [(.s 56)],none⟩,
 ⟨some 58,.build [(.int .i64 0),(.slice none 0 0),(.slice none 0 0),(.slice none 0 0)] [(0,1,(.s 55)),(1,3,(.s 57))],none⟩,
 ⟨some 59,.zej (.s 53) [(.s 58)],none⟩]
def zHi:C:=.seq (.seq (.reg false false [⟨some 12,.load none (.s 1),none⟩,
 ⟨some 13,.len (.s 12),none⟩,
 ⟨some 14,.mov (.c (.int .i64 0)),none⟩]) (.scope (.block 0 (.loop zxh)))) zAv
theorem zEy:zt5 mC 78=some (60,zHi,[],false):=zhR (by kernel_rfl)
theorem drop_cons{α:Type}{u r:List α}{j:Nat}{y:α}(h:u.drop j=y :: r):u[j]? = some y/\u.drop (j+1)=r:=by
 have hj:j<u.length:=by
  refine Nat.lt_of_not_le λhn=>?_
  rw[qaW hn]at h;cases h
 rw[qas hj]at h;exact⟨by rw[qac hj,(qcH h).1],(qcH h).2⟩
theorem za8.zGJ{k0 N n:Nat}{E E':List (Nat×D)}{L L1 X:List LB}(ws:List Lx.Act)(hn:L.length=n)(hk:k0<=n)(hl:L1.length=n)(hb:∀(j:Nat) b b',L[j]? = some b->L1[j]? = some b'->MB (L ++ X) (isF (zeA n ws)) (isK (zeA n ws)) b b')
  (hY:zjh ws 0=true) (hE:MEs (L ++ X) (zeA n ws) E E'):za8 k0 ⟨N,E,L ++ X⟩ ⟨N,E',L1⟩:=by
 have hX:MBx (L ++ X) (isF (zeA n ws)) (isK (zeA n ws)) ws X []:=by cases ws<;>cases X<;>trivial
 have h:=za8.zCk (N:=N) ws hn hk hl hb hX hY hE
 rwa [qaH]at h
theorem zv7{q:S_eliminate_query}{l0:List S_api_Factor}{order:List Int}(hu0:zor q l0 order=some u)(κ:Nat):
  zGg mC 78 [] [.fptr false ((eL (eI .i64)).c false order),.fptr false (zas.c false q),.ptr κ 0] u stY κ (stG l0 u):=by
 intro n0 β P Ps hβ hκ hne hlen hset hround L hP;obtain⟨_,hsm,hu⟩:=bsM hu0;refine zdK.ofM zEy (zfJ rfl) (qad rfl) ?_;rw[zrn hu]at hP;have hL:=(hlen _ _ _ hP).1;unfold zHi;refine wSM ?_;refine EvL.scope (zad ?_);refine sSM ?_;rw[hL];refine EvL.loop (α:=Nat×Nat×List S_api_Factor×List LB) (λa=>⟨60,[(0,.yld β),(2,.fptr false (zas.c false q)),(3,.ptr κ 0),(12,fzE false (eI .i64) order),(13,dI (order.length:Int)),(14,dI (a.1:Int))],a.2.2.2⟩)
  (λa=>P a.2.1 (.cells [fzE false zab a.2.2.1]) a.2.2.2/\zfL q a.2.2.1 (order.drop a.1)=some (u.drop a.2.1)/\a.1<=order.length) (λa=>order.length - a.1) (0,0,l0,L) (by refine za8.sub ?_; exact⟨rfl,rfl,rfl,rfl,rfl,rfl,qds⟩) ⟨hP,hu,qar _⟩ ?_
 rintro⟨i,j,l,L1⟩ ⟨hp,hs,hi⟩;simp only at hp hs hi;obtain⟨hl,hk1,hsc0⟩:=hlen _ _ _ hp;have hsc:zdw n0 L1:=hsc0 λn=>⟨qds,qds⟩
 have hsm':=zih hsm;unfold zxh;refine zad ?_;rcases qaY i order.length with hlt | hge
 .have hlt':(i:Int)<(order.length:Int):=by omega
  have hx:zaE order (i:Int)=some order[i]:=by unfold zaE; rw[if_pos (by omega),qay,qac hlt]
  rw[qas hlt]at hs;generalize order[i]=x at hx hs;unfold zfL at hs;obtain⟨kx,hk,hs⟩:=bsM hs;refine sXM hlt' ?_;refine EvL.jn (λa:Nat×List S_api_Factor×List LB=>⟨60,[(0,.yld β),(2,.fptr false (zas.c false q)),(3,.ptr κ 0),(12,fzE false (eI .i64) order),(13,dI (order.length:Int)),(14,dI (i:Int))],a.2.2⟩)
   (λa=>P a.1 (.cells [fzE false zab a.2.1]) a.2.2/\zfL q a.2.1 (order.drop (i+1))=some (u.drop a.1)) ?_ ?_
  .unfold zEY zDv zEF zFi zDy zEj zE1 zDV zDJ;refine zad ?_;have hg0:=zmu hl;have hs0:=zsz hl;cases hc:decide (0<=kx)with
   | true=>
    rw[hc,qdt]at hs;refine sXM (anM (zaq (n:=1) (e:=eI .i64) rfl hx) (anM @zbw (anM hl (anM hg0 (anM hs0 (anM (zaq (n:=1) (e:=eI .i64) rfl hk) hc)))))) ?_;exact⟨(j,l,L1),⟨hp,hs⟩,za8.cut (L:=L1) (qdr hl.symm) ⟨⟨rfl,by rw[hl]; exact hβ⟩,⟨rfl,qds⟩,⟨rfl,by rw[hl]; exact hκ⟩,⟨rfl,qds⟩,⟨rfl,qds⟩,⟨rfl,qds⟩,qds⟩ (by rw[hl]; exact hsc)⟩
   | false=>
   rw[hc,qdu]at hs;obtain⟨r,hr,hs⟩:=bsM hs;refine sXM (anM (zaq (n:=1) (e:=eI .i64) rfl hx) (anM @zbw (anM hl (anM hg0 (anM hs0 (anM (zaq (n:=1) (e:=eI .i64) rfl hk) (anM hc (anM (zrQ hl hκ) hk1)))))))) ?_;refine EvL.zgd (S':=⟨60,[(0,.yld β),(2,.fptr false (zas.c false q)),(3,.ptr κ 0),(12,fzE false (eI .i64) order),(13,dI (order.length:Int)),(14,dI (i:Int)),(6,.fptr false ((eI .i64).c false x)),(25,fzE false zab l),(26,.clo 80 [] [.fptr false ((eI .i64).c false x)])],L1 ++ []⟩)
    (za8.zCk (X:=[.cells ((eI .i64).c false x)]) (Y:=[]) [.f] hl (qap _) hl (znr hsc) trivial rfl ?_) ?_
   .exact(ms rfl (zf7 hβ) (msq (ms rfl (zf7 hκ) (msq (msq (ms rfl qds
     (mf rfl (zjD (t:=false) (eI .i64) x (zxB rfl) (hg0 _) (λh=>h)) (msq (mx rfl (Mo.clo rfl rfl (Mos.get .nil) (Mos.get (.cons (.fr (zjD (t:=false) (eI .i64) x (zxB rfl) (hg0 _) (λh=>h))) .nil))) trivial)))))))))
   refine wSM ?_;refine EvL.fnT (r:=.tup [.sl n0 0 3 r.1.length none r.1.length,.sl (n0+1) 0 3 r.2.length none r.2.length]) (L':=L1 ++ [.grow 3 (r.1.map (zab.c false)),.grow 3 (r.2.map (zab.c false))]) (zji hr) rfl rfl
    (.cons (zdX _ _ (λh=>by cases h<;>contradiction)) (.cons (.clo rfl rfl (Mzs.get .nil) (Mzs.get (.cons (.fptr (λh=>by cases h<;>contradiction) rfl (Mzs.get (.cons (.lit _) .nil))) .nil))) .nil))
    ⟨zcz _ _,⟨qds,⟨rfl,qds,qds⟩,qds⟩,qds⟩ ⟨qds,qds,qds⟩ ⟨zmS zab (λx=>zab.fr x) _,zmS zab (λx=>zab.fr x) _,qds⟩ (by rw[qaH,hl]; rfl) (by rw[qaH]) ?_
   cases hc2:((r.1.length:Int)== 0)with
   | true=>
    rw[hc2,qdt]at hs;refine sXM (anM hc2 hg0) ?_;exact⟨(j,l,L1),⟨hp,hs⟩,za8.cut (L:=L1) (qdr hl.symm) ⟨⟨rfl,by rw[hl]; exact hβ⟩,⟨rfl,qds⟩,⟨rfl,by rw[hl]; exact hκ⟩,⟨rfl,qds⟩,⟨rfl,qds⟩,⟨rfl,qds⟩,qds⟩ (by rw[hl]; exact hsc)⟩
   | false=>
   rw[hc2,qdu]at hs;obtain⟨p,hpm,y,hy,l',hl',hs⟩:=zhx hs;obtain⟨u',hu',hs⟩:=bsM hs;obtain⟨hj1,hj2⟩:=drop_cons (qae hs).symm;refine sXM (anM hc2 hg0) ?_;refine EvL.fn (zeD hpm) rfl rfl (.cons (zm9 (e:=zab) (t:=false) rfl (.inr (by rw[zmu hl]; rfl)) rfl rfl (λk h=>nomatch h) (λh=>h)) .nil) ?_;simp only[rnA,Nat.reduceEqDiff,Nat.reduceLT,Nat.reduceAdd,Nat.reduceLeDiff,reduceCtorEq,qax,hl,hg0,zkK hl,zp4 hl,qaF];refine EvL.zgd (S':=⟨60,[(0,.yld β),(2,.fptr false (zas.c false q)),(3,.ptr κ 0),(12,fzE false (eI .i64) order),(13,dI (order.length:Int)),(14,dI (i:Int)),(6,.fptr false ((eI .i64).c false x)),(8,.sl (n0+1) 0 3 r.2.length none r.2.length),(9,.fptr true (zab.c true p)),(35,.yld β),(39,.agg [dI (r.1.length:Int),fzE true (eI .i64) p.vars,fzE true (eI .i64) p.zah,fzE true (eI .i64) p.w])],L1 ++ [.gone,.grow 3 (r.2.map (zab.c false))]⟩)
    (za8.zCk (X:=[.grow 3 (r.1.map (zab.c false)),.grow 3 (r.2.map (zab.c false)),.cells (zab.c true p)]) (Y:=[.gone,.grow 3 (r.2.map (zab.c false))]) [.d,.k,.f] hl (qap _) hl (znr hsc) ⟨rfl,MB.gs zab false _,qds⟩ rfl ?_) ?_
   .exact(ms rfl (zf7 hβ) (msq (ms rfl (zf7 hκ) (msq (msq (msq (msq (ms rfl (zDa (j:=1) rfl)
     (mf rfl (zjD (t:=true) zab p (zw1 (j:=2) rfl) (by rw[zkK hl]; rfl) (λh=>h)) (ms rfl (zf7 hβ) (ms rfl ⟨qds,qds,qds,qds,qds⟩ trivial)))))))))))
   refine EvL.yield rfl rfl rfl (hround j _ L1 _ [.gone,.grow 3 (r.2.map (zab.c false))] hj1 (by unfold stG; rw[hj1]; exact hp) ⟨rfl,.grow 3 (r.2.map (zab.c false)),λkp=>zeP zab kp false r.2,rfl⟩) ?_;rintro b L' ⟨Lz,rfl,hl3,hb⟩;cases b with
   | false=>
    refine sSM ?_;exact⟨[],rfl,Lz,_,rfl,hl3,.inr hb⟩
   | true=>
   simp only[show stG l0 u j=.cells [fzE false zab l]from by unfold stG; rw[hj1]]at hb;obtain⟨_,hk3,hsc30⟩:=hlen _ _ _ hb;have hsc3:zdw n0 Lz:=hsc30 λn=>⟨qds,qds⟩
   refine sXM @zde ?_;refine fDM (zjf hy) ?_;have hsl3:=zxO (x:=.cells [.sl (n0+1) 0 3 l'.length none l'.length]) hl3 hκ;simp only[rnA,Nat.reduceEqDiff,Nat.reduceLT,Nat.reduceAdd,Nat.reduceLeDiff,reduceCtorEq,qax,hl3,zkK hl3,zp4 hl3,zrQ hl3 hκ,hk3,qaF,zbz hl',(show r.2.length+1=l'.length from zfK hl'),(show r.2.map (zab.c false)++ [[fzE false (eI .i64) y.1.vars,fzE false (eI .i64) y.1.zah,fzE false (eI .i64) y.1.w]]=l'.map (zab.c false)from zdB hl' (zab.c false)),hsl3];refine⟨(j+1,l',Lz.set κ (.cells [fzE false zab l'])),⟨hset _ _ _ _ hb,by rw[hj2]; exact hu'⟩,?_⟩;have hls:∀ z,(Lz.set κ z).length=n0:=λz=>by rw[qaI]; exact hl3
   refine za8.zGJ (n:=n0) (X:=[.gone,.grow 3 (l'.map (zab.c false)),.cells [fzE false (eI .i64) y.1.vars,fzE false (eI .i64) y.1.zah,fzE false (eI .i64) y.1.w],.els 3 [[fzE false (eI .i64) y.1.vars,fzE false (eI .i64) y.1.zah,fzE false (eI .i64) y.1.w]]]) [.d,.f,.d,.d] (hls _) (qap _) (hls _)
    (zBq (g:=.cells [.sl (n0+1) 0 3 l'.length none l'.length]) (g':=.cells [fzE false zab l']) hsc3 (MB.cells rfl (Mos.get (.cons (.fr (zhz (s:=false) (t':=false) (cap:=none) (β:=n0+1) (n:=3) (st:=l'.length) (len:=l'.length) (e:=zab) (t:=false) (zw1 (j:=1) rfl) rfl (.inr (zkK (hls _) _ 1)) rfl rfl (λk h=>nomatch h) (λh=>by cases h<;>contradiction))) .nil)))) rfl ?_
   exact(ms rfl (zf7 hβ) (msq (ms rfl (zf7 hκ) (msq (msq (msq trivial))))))
  rintro⟨j,l,L1⟩ ⟨hp,hs⟩;refine wSM ?_;have hw:IntKind.i64.wrap ((i:Int)+1)=((i+1:Nat):Int):=by rw[wrap64 (by omega) (by omega)]; omega
  exact⟨(i+1,j,l,L1),⟨hp,hs,hlt⟩,by show order.length - (i+1)<order.length - i; omega,by
   rw[hw]
   exact za8.sub ⟨rfl,rfl,rfl,rfl,rfl,rfl,qds⟩⟩
 have hge':decide ((i:Int)<(order.length:Int))=false:=qdw (by omega);rw[qaW hge]at hs;unfold zfL at hs;obtain⟨p,hpm,hs⟩:=bsM hs;obtain⟨hj1,hj2⟩:=drop_cons (qae hs).symm;have hjl:u.length=j+1:=by
  have h1:=(qab.1 hj1).1;have h2:=congrArg List.length hj2;rw[qcq]at h2;simp only[qaU]at h2;omega
 unfold zAv;refine sXM (anM hge' hk1) ?_;refine fCM (zeD hpm) ?_;refine EvL.zgd (za8.pad (X:=[.gone,.gone]) (λb hb=>by simpa using hb)) ?_;refine EvL.yield rfl rfl rfl (hround j _ L1 _ [.gone,.gone] hj1 (by unfold stG; rw[hj1]; exact hp) ⟨rfl,.gone,λkp=>trivial,rfl⟩) ?_;rintro b L' ⟨Lz,rfl,hl3,hb⟩;refine sSM ?_;cases b with
 | false=>exact⟨[],rfl,Lz,_,rfl,hl3,.inr hb⟩
 | true=>exact⟨[],rfl,Lz,_,rfl,hl3,.inl ⟨j,by rw[hjl]; exact hb⟩⟩
def zay(p0:S_eliminate_query):Nat->Int->(List Int)->(List Int)->(List Int)->Option (Out ((List Int)×(List Int)×(List Int)) ((List S_api_Factor)×Int))
 | 0,_,_,_,_=>none
 | n+1,v37,b2_0,b2_1,b2_2=>(
bif (decide (v37<(p0.known.length:Int)))then(
(((zaE p0.known v37).bind λx11=>
((bif (decide (x11<0))then(
some true)
else(
(zb6 (S_api_Factor.mk b2_0 b2_1 b2_2) v37).bind λr14=>
some (!r14)):Option Bool)).bind λv49=>
bif v49 then(
some (.go (b2_0,b2_1,b2_2)))
else(
(zdf (S_api_Factor.mk b2_0 b2_1 b2_2) v37 x11).bind λr17=>
bif (r17.2 == 0)then(
some (.go (r17.1.vars,r17.1.zah,r17.1.w)))
else(
some (.ret ([],r17.2)))):Option (Out ((List Int)×(List Int)×(List Int)) ((List S_api_Factor)×Int)))).bind λo=>match o with
| .go (b2_0',b2_1',b2_2')=>(
zay p0 n (w64 (v37+1)) b2_0' b2_1' b2_2')
| .ret r=>some (.ret r))
else(
some (.go (b2_0,b2_1,b2_2))))
def zaI(r1:((List S_api_Factor)×Int))(p1:Int)(p0:S_eliminate_query):Nat->Int->(List S_api_Factor)->Option (Out (List S_api_Factor) ((List S_api_Factor)×Int))
 | 0,_,_=>none
 | n+1,v24,l1=>(
bif (decide (v24<(r1.1.length:Int)))then(
(((zaE r1.1 v24).bind λx5=>
(zku .u64 p1 v24).bind λq7=>
bif ((zkZ .u64 q7 1)== 0)then(
some (.go l1))
else(
((zay p0 ((p0.known.length:Int) - 0+2:Int).toNat 0 x5.vars x5.zah x5.w:Option (Out ((List Int)×(List Int)×(List Int)) ((List S_api_Factor)×Int)))).bind λo=>match o with
| .go (b2_0,b2_1,b2_2)=>(
(zcX 72 l1 [(S_api_Factor.mk b2_0 b2_1 b2_2)]).bind λy20=>
some (.go y20))
| .ret r=>some (.ret r)):Option (Out (List S_api_Factor) ((List S_api_Factor)×Int)))).bind λo=>match o with
| .go l1'=>(
zaI r1 p1 p0 n (w64 (v24+1)) l1')
| .ret r=>some (.ret r))
else(
some (.go l1)))
def zbj(p0:S_eliminate_query)(p1:Int):Option ((List S_api_Factor)×Int):=
(zd0 p0.net).bind λr1=>
bif (r1.2 == 0)then(
((zaI r1 p1 p0 ((r1.1.length:Int) - 0+2:Int).toNat 0 []:Option (Out (List S_api_Factor) ((List S_api_Factor)×Int)))).bind λo=>match o with
| .go l1=>(
some (l1,0))
| .ret r=>some r)
else(
some ([],r1.2))
theorem zfn{p0:S_eliminate_query}{p1:Int}{r:((List S_api_Factor)×Int)}(h:zbj p0 p1=some r):Lx.Fn mC 51 [(.agg [(dI p0.net.grain),(fzE false zaa p0.net.nodes),(fzE false (eI .i64) p0.known),(dI p0.node)]),(dU p1)] (.tup [(fzE true zab r.1),(dI r.2)]):=by
 refine gnO ?_;unfold zbj at h;refine zad ?_;obtain⟨r1,g2,h⟩:=bsM h;refine sSM ?_;refine fCM (zk3 g2) ?_;refine cBM h (λ_ h=>?_) λ_ h=>?_
 .exact rHM h
 obtain⟨o185,j185,h⟩:=bsM h;refine usM [] 1 (λa:(List S_api_Factor)=>([(8,(.sl 1 0 3 a.length none a.length))],[(0,.gone)],[.grow 3 (a.map (zab.c true))])) λT185 hT185=>?_
 refine EvL.jn T185 (λa=>o185=.go a) ?_ ?_
 .refine wSM ?_;obtain⟨T329,hT329⟩:=mkT λa:(Int×(List S_api_Factor))=>⟨67,[(1,(dU p1)),(2,(.ptr 0 0)),(8,(.sl 1 0 3 a.2.length none a.2.length)),(22,(fzE true zab r1.1)),(23,(dI (r1.1.length:Int))),(24,(dI a.1))],[.cells [(dI p0.net.grain),(fzE false zaa p0.net.nodes),(fzE false (eI .i64) p0.known),(dI p0.node)],.grow 3 (a.2.map (zab.c true))]⟩
  refine EvL.zgd (za8.ghost (n:=3) (k:=8) (by decide) rfl) ?_;refine EvL.rounds (α:=(Int×(List S_api_Factor))) T329 (λn a=>zaI r1 p1 p0 n a.1 a.2=some o185) ((r1.1.length:Int) - 0+2:Int).toNat (0,[]) (by rw[hT329]; exact wm0 [.k,.k] ⟨MB.cs ⟨qds,qds,qds,qds,qds⟩,⟨MB.gs zab true [],qds⟩⟩) j185 (λ_ h=>nomatch (show(none:Option (Out (List S_api_Factor) ((List S_api_Factor)×Int)))=some o185 from h)) ?_;rintro n ⟨v24,l1⟩ j185;simp only[zaI]at j185;refine wTM hT329 ?_;refine cBM j185 (λ_ j185=>?_) λ_ j185=>?_
  .exact zk6 j185 hT185
  obtain⟨o350,j350,j185⟩:=bsM j185;obtain⟨T350,hT350⟩:=zcC hT329 λa:(List S_api_Factor)=>uDM (T329 (v24,l1)) [8] [(8,(.sl 1 0 3 a.length none a.length))] [(1,.grow 3 (a.map (zab.c true)))] []
  refine EvL.jn T350 (λa=>o350=.go a) ?_ ?_
  .refine zad ?_;obtain⟨x5,g6,q7,g8,j350⟩:=zfo j350;refine sXM (anM @zde (anM (zaq (n:=3) (e:=zab) rfl g6) (anM ((zbA g8).1) ((zbA g8).2)))) ?_;refine cBM j350 (λ_ j350=>?_) λ_ j350=>?_
   .obtain⟨o360,j360,j350⟩:=bsM j350;obtain⟨T360,hT360⟩:=zcC hT329 λa:((List Int)×(List Int)×(List Int))=>uDM (T329 (v24,l1)) [] [(10,(.ptr 2 0))] [] [.cells [(fzE true (eI .i64) a.1),(fzE true (eI .i64) a.2.1),(fzE true (eI .i64) a.2.2)]]
    refine EvL.jn T360 (λa=>o360=.go a) ?_ ?_
    .refine wSM ?_;obtain⟨T367,hT367⟩:=zcC hT329 λa:(Int×(List Int)×(List Int)×(List Int))=>uDM (T329 (v24,l1)) [] [(10,(.ptr 2 0)),(35,(fzE false (eI .i64) p0.known)),(36,(dI (p0.known.length:Int))),(37,(dI a.1))] [] [.cells [(fzE true (eI .i64) a.2.1),(fzE true (eI .i64) a.2.2.1),(fzE true (eI .i64) a.2.2.2)]]
     refine EvL.rounds (α:=(Int×(List Int)×(List Int)×(List Int))) T367 (λn a=>zay p0 n a.1 a.2.1 a.2.2.1 a.2.2.2=some o360) ((p0.known.length:Int) - 0+2:Int).toNat (0,x5.vars,x5.zah,x5.w) (by rw[hT367]; exact wAM) j360 (λ_ h=>nomatch (show(none:Option (Out ((List Int)×(List Int)×(List Int)) ((List S_api_Factor)×Int)))=some o360 from h)) ?_;rintro n ⟨v37,b2_0,b2_1,b2_2⟩ j360;simp only[zay]at j360;refine wTM hT367 ?_;refine cBM j360 (λ_ j360=>?_) λ_ j360=>?_
     .exact zk6 j360 hT360
     obtain⟨o369,j369,j360⟩:=bsM j360;obtain⟨T369,hT369⟩:=zcC hT367 λa:((List Int)×(List Int)×(List Int))=>uDM (T367 (v37,b2_0,b2_1,b2_2)) [] [] [(2,.cells [(fzE true (eI .i64) a.1),(fzE true (eI .i64) a.2.1),(fzE true (eI .i64) a.2.2)])] []
     refine EvL.jn T369 (λa=>o369=.go a) ?_ ?_
     .refine zad ?_;obtain⟨x11,g12,j369⟩:=bsM j369;refine sXM (ixM g12) ?_;obtain⟨o370,j370,j369⟩:=bsM j369;obtain⟨T370,hT370⟩:=zcC hT367 λa:Bool=>uDM (T367 (v37,b2_0,b2_1,b2_2)) [] [(11,(dI v37)),(12,(dI x11)),(49,(dB a))] [] []
      refine EvL.jn T370 (λa=>a=o370) ?_ ?_
      .refine wSM ?_;refine cBM j370 (λ_ j370=>?_) λ_ j370=>?_
       .obtain⟨r14,g15,j370⟩:=bsM j370;refine sSM ?_;refine fCM (zge g15) ?_;exact zch j370 hT370
       refine EvL.skip rfl ?_;refine sSM ?_;exact zch j370 hT370
      rintro v49 rfl;refine wTM hT370 ?_;refine cBM j369 (λ_ j369=>?_) λ_ j369=>?_
      .obtain⟨r17,g18,j369⟩:=bsM j369;refine sSM ?_;refine fCM (zl6 g18) ?_;refine cBM j369 (λ_ j369=>?_) λ_ j369=>?_
       .obtain rfl:=qae j369;obtain rfl:=qae j360;obtain rfl:=qae j350;obtain rfl:=qae j185;exact rHM h
       exact zk6 j369 hT369
      exact zk6 j369 hT369
     rintro⟨b2_0',b2_1',b2_2'⟩ rfl;dsimp only at j360;refine wTM hT369 ?_;exact zcr hT367 ((w64 (v37+1)),b2_0',b2_1',b2_2') j360
    rintro⟨b2_0,b2_1,b2_2⟩ rfl;dsimp only at j350;refine wTM hT360 ?_;obtain⟨y20,g21,j350⟩:=bsM j350;refine sXM (anM (zbz g21) (anM (plM g21) (show l1.map (zab.c true)++ [[(fzE true (eI .i64) b2_0),(fzE true (eI .i64) b2_1),(fzE true (eI .i64) b2_2)]]=y20.map (zab.c true)from zdB g21 (zab.c true)))) ?_;exact zk6 j350 hT350
   exact zk6 j350 hT350
  rintro l1' rfl;dsimp only at j185;refine wTM hT350 ?_;exact zcr hT329 ((w64 (v24+1)),l1') j185
 rintro l1 rfl;dsimp only at h;refine wTM hT185 ?_;exact rHM h
def zbI(p0:S_api_Net)(p1:(List Int))(p2:Int):Option (S_eliminate_query×Int):=
(zbm p0 p1).bind λr1=>
bif (r1 == 0)then(
((bif (decide (p2<0))then(
some true)
else(
some (decide ((p0.nodes.length:Int)<=p2))):Option Bool)).bind λv24=>
bif v24 then(
some ((S_eliminate_query.mk (S_api_Net.mk 0 []) [] 0),2))
else(
some ((S_eliminate_query.mk p0 p1 p2),0)))
else(
some ((S_eliminate_query.mk (S_api_Net.mk 0 []) [] 0),r1))
variable{p0:S_api_Net}
theorem zjg{p1:(List Int)}{p2:Int}{r:(S_eliminate_query×Int)}(h:zbI p0 p1 p2=some r):Lx.FnA mC 39 [(.agg [(dI p0.grain),(fzE false zaa p0.nodes)]),(fzE false (eI .i64) p1),(dI p2)] (.tup [(.agg [(dI r.1.net.grain),(fzE false zaa r.1.net.nodes),(fzE false (eI .i64) r.1.known),(dI r.1.node)]),(dI r.2)]):=by
 refine zz4 ?_;unfold zbI at h;refine zad ?_;obtain⟨r1,g2,h⟩:=bsM h;refine sSM ?_;refine fCM (zhb g2) ?_;refine cBM h (λ_ h=>?_) λ_ h=>?_
 .exact rHM h
 obtain⟨o1,j1,h⟩:=bsM h;refine usM [1,2,3,6] 2 (λa:Bool=>([(24,(dB a))],[],[])) λT1 hT1=>?_
 refine EvL.jn T1 _ (bJM j1 hT1) ?_;rintro v24 rfl;refine wTM hT1 ?_;refine cBM h (λ_ h=>?_) λ_ h=>?_
 .exact rHM h
 exact rHM h
def zbn:List StI->Int->Int->Option (Int×Int)
 | [],b1_0,b2_0=>some (b1_0,b2_0)
 | y16 :: ys,b1_0,b2_0=>(
zbn ys (w64 (b1_0+(w64 ((w64 (y16.1.count - 1))* (y16.1.product.w.length:Int))))) (zhs b2_0 (y16.1.product.w.length:Int)))
def zbk(p0:S_api_Net)(p1:(List Int))(p2:Int)(p3:(List Int)):Option (Int×Int×Int):=
(zbI p0 p1 p2).bind λr1=>
bif (r1.2 == 0)then(
(zaw r1.1 p3).bind λr4=>
bif r4 then(
(zpr .u64 1 (r1.1.net.nodes.length:Int)).bind λq7=>
(zbj r1.1 (IntKind.u64.wrap (q7 - 1))).bind λr9=>
bif (r9.2 == 0)then(
(zel r1.1 r9.1 p3).bind λr12=>
(zor r12.1 r12.2.1 r12.2.2).bind λu14=>
((zbn u14 0 0:Option (Int×Int))).bind λo=>match o with
|(b1_0,b2_0)=>(
some (b1_0,b2_0,0)))
else(
some (0,0,r9.2)))
else(
some (0,0,2)))
else(
some (0,0,r1.2))
theorem zi0{p1:(List Int)}{p2:Int}{p3:(List Int)}{r:(Int×Int×Int)}(h:zbk p0 p1 p2 p3=some r):Lx.Fn mC 20 [(.agg [(dI p0.grain),(fzE false zaa p0.nodes)]),(fzE false (eI .i64) p1),(dI p2),(fzE false (eI .i64) p3)] (.tup [(dI r.1),(dI r.2.1),(dI r.2.2)]):=by
 refine gnO ?_;unfold zbk at h;refine zad ?_;obtain⟨r1,g2,h⟩:=bsM h;refine sSM ?_;refine fDM (zjg g2) ?_;refine cBM h (λ_ h=>?_) λ_ h=>?_
 .exact rHM h
 obtain⟨r4,g5,h⟩:=bsM h;refine sSM ?_;refine fCM (zfm g5) ?_;refine cBM h (λ_ h=>?_) λ_ h=>?_
 .exact rHM h
 obtain⟨q7,g8,r9,g10,h⟩:=zfo h;refine sXM (anM ((zby g8).1) ((zby g8).2)) ?_;refine fCM (zfn g10) ?_;refine cBM h (λ_ h=>?_) λ_ h=>?_
 .exact rHM h
 obtain⟨r12,g13,h⟩:=bsM h;refine sSM ?_;refine EvL.fnT (r:=(.clo 78 [] [(.fptr false ((eL (eI .i64)).c false r12.2.2)),(.fptr false (zas.c false r12.1)),(.ptr 5 0)])) (L':=[.cells [(dI p0.grain),(fzE false zaa p0.nodes)],.cells [(dI 0)],.cells [(dI 0)],.cells [(dI r1.1.net.grain),(fzE false zaa r1.1.net.nodes),(fzE false (eI .i64) r1.1.known),(dI r1.1.node)],.gone,.cells [(fzE false zab r12.2.1)]]) (zhP g13) rfl rfl (.cons (Mzs.agg (.cons (.lit _) (.cons (zdX _ _ (λh=>by cases h<;>contradiction)) (.cons (zdX _ _ (λh=>by cases h<;>contradiction)) (.cons (.lit _) .nil))))) (.cons (zdX _ _ (λh=>by cases h<;>contradiction)) (.cons (zdX _ _ (λh=>by cases h<;>contradiction)) .nil))) ⟨⟨qds,(zcz _ _),(zcz _ _),qds,qds⟩,(zcz _ _),(zcz _ _),qds⟩ ⟨⟨qds,λy hy=>by simp only[qav,qbC,qdB]at hy; rcases hy with rfl | rfl | rfl<;>first | trivial | exact⟨rfl,(eL (eI .i64)).fr _⟩| exact⟨rfl,zas.fr _⟩⟩,qds⟩ ⟨qds,⟨⟨zcz _ _,qds⟩,qds⟩⟩ rfl rfl ?_;refine sXM @zbw ?_;obtain⟨u14,g15,o1,j1,h⟩:=zfo h;obtain⟨T1,hM1⟩:∃ T:(Int×Int)->LB->List LB,T=(λa g=>[.cells [(dI p0.grain),(fzE false zaa p0.nodes)],.cells [(dI a.1)],.cells [(dI a.2)],.cells [(dI r1.1.net.grain),(fzE false zaa r1.1.net.nodes),(fzE false (eI .i64) r1.1.known),(dI r1.1.node)],.gone,g]):=⟨_,rfl⟩;refine EvL.zgd (S':=⟨65,[(8,(.ptr 1 0)),(9,(.ptr 2 0)),(45,(.clo 78 [] [(.fptr false ((eL (eI .i64)).c false r12.2.2)),(.fptr false (zas.c false r12.1)),(.ptr 5 0)]))],T1 (0,0) (stG r12.2.1 u14 0)⟩) (by rw[hM1,zuY g15]; exact wm0 [.k,.k,.k,.k,.k,.k] ⟨MB.cs ⟨qds,qds,qds⟩,⟨MB.cs ⟨qds,qds⟩,⟨MB.cs ⟨qds,qds⟩,⟨MB.cs ⟨qds,qds,qds,qds,qds⟩,⟨MB.same trivial,⟨MB.same ⟨qds,qds⟩,qds⟩⟩⟩⟩⟩⟩) ?_;refine EvL.zF6 (n0:=6) (zv7 g15 5) rfl (bm:=.block 1 (.seq (.reg false false [⟨some 47,.load none (.s 8),none⟩,⟨some 48,.fld 0 (.s 13),none⟩,⟨some 49,.load none (.s 48),none⟩,⟨some 50,.bin .sub (.s 49) (.c (.int .i64 1)),none⟩,⟨some 51,.fld 1 (.s 13),none⟩,⟨some 52,.fld 2 (.s 51),none⟩,⟨some 53,.load none (.s 52),none⟩,⟨some 54,.len (.s 53),none⟩,⟨some 55,.bin .mul (.s 50) (.s 54),none⟩,⟨some 56,.bin .add (.s 47) (.s 55),none⟩,⟨none,.store 1 (.s 8) (.s 56),none⟩]) (.reg false false [⟨some 57,.load none (.s 9),none⟩,⟨some 58,.fld 1 (.s 13),none⟩,⟨some 59,.fld 2 (.s 58),none⟩,⟨some 60,.load none (.s 59),none⟩,⟨some 61,.len (.s 60),none⟩,⟨some 62,.mm true [(.s 57),(.s 61)],none⟩,⟨none,.store 1 (.s 9) (.s 62),none⟩]))) rfl T1 (λi a=>zbn (u14.drop i) a.1 a.2=some o1) (λx L1=>match x with | .normal=>∃ a,∃ g,(∀ kp,LB.kin kp g)/\(∀ n,LB.sc n g)/\o1=a/\L1=T1 a g | .ret=>L1.length=6/\zdw (6+1) L1/\(zje [.cell 8 none,.cell 9 none,.tmp 10] ((.tup [(dI r.1),(dI r.2.1),(dI r.2.2)]))) .ret ⟨65,[(8,(.ptr 1 0)),(9,(.ptr 2 0)),(45,(.clo 78 [] [(.fptr false ((eL (eI .i64)).c false r12.2.2)),(.fptr false (zas.c false r12.1)),(.ptr 5 0)]))],L1 ++ [.lost]⟩| _=>False) (0,0) (by decide) ?_ ?_ ?_ (zv9 _ _) (qar _) ?_ (zAA _ _) ?_ ?_ (λd L1 hx=>hx.elim) ?_ ?_ ?_ ?_ ?_ ?_
 .intros; rw[hM1]; rfl
 .intros; rw[hM1]; rfl
 .intros; rw[hM1]; rfl
 .exact⟨(qad rfl),(qad rfl),⟨qds,⟨qds,qds,(qad rfl),qds⟩⟩,qds⟩
 .intro a g hgs; rw[hM1]; exact⟨⟨qds,qds,qds⟩,⟨qds,qds⟩,⟨qds,qds⟩,⟨qds,qds,qds,qds,qds⟩,qds,(hgs _),qds⟩
 .intro x L1 hx;cases x with
  | normal=>obtain⟨a,g,hgk,hgs,_,rfl⟩:=hx; exact⟨by rw[hM1]; rfl,by rw[hM1]; exact⟨⟨qds,qds,qds⟩,⟨qds,qds⟩,⟨qds,qds⟩,⟨qds,qds,qds,qds,qds⟩,qds,(hgs _),qds⟩⟩
  | ret=>exact⟨hx.1,hx.2.1⟩
  | exit id=>exact hx.elim
  | panic d=>exact hx.elim
 .exact j1
 .rintro i ⟨b1_0,b2_0⟩ y16 args G lpF g hy hi1 ⟨rfl,gB,hgB,rfl⟩ hkin hgk;rw[zf4 hy]at hi1;simp only[zbn]at hi1;refine⟨_,_,_,rfl,.box (by decide) (by decide) rfl rfl rfl rfl,?_⟩;rw[congrFun (congrFun hM1 (b1_0,b2_0)) g];refine zad ?_;refine sXM @zbw ?_;exact⟨T1 ((w64 (b1_0+(w64 ((w64 (y16.1.count - 1))* (y16.1.product.w.length:Int))))),(zhs b2_0 (y16.1.product.w.length:Int))) g,by rw[hM1]; rfl,by rw[hM1]; exact za8.mK [.k,.k,.k,.k,.k,.k,.k,.k,.k] rfl rfl qds ⟨MB.cs ⟨qds,qds,qds⟩,⟨MB.cs ⟨qds,qds⟩,⟨MB.cs ⟨qds,qds⟩,⟨MB.cs ⟨qds,qds,qds,qds,qds⟩,⟨MB.same trivial,⟨MB.same (hgk _),⟨.same (hkin _ (by decide)),⟨MB.same trivial,⟨MB.same (hgB _),qds⟩⟩⟩⟩⟩⟩⟩⟩⟩,((w64 (b1_0+(w64 ((w64 (y16.1.count - 1))* (y16.1.product.w.length:Int))))),(zhs b2_0 (y16.1.product.w.length:Int))),hi1,rfl⟩
 .rintro⟨b1_0,b2_0⟩ i hi1;rw[qbx]at hi1;simp only[zbn]at hi1;exact⟨(b1_0,b2_0),_,zv9 _ _ _,zAA _ _ _,(qae hi1).symm,rfl⟩
 .rintro _ ⟨⟨b1_0,b2_0⟩,g,hgk,hgs,rfl,rfl⟩;dsimp only at h;rw[congrFun (congrFun hM1 (b1_0,b2_0)) g];refine zad ?_;refine sXM @zbw ?_;exact rHM h
 .intro id L1 hx; exact hx.elim
 intro L1 hx; exact hx.2.2
end Go.Dc
