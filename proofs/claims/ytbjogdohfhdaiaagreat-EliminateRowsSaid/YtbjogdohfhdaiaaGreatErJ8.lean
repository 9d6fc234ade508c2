/-
 What net_CheckEvidence computes. Conditions: none.
-/
import Derived.Test.YtbjogdohfhdaiaaGreatErJ5
import Derived.Test.YtbjogdohfhdaiaaGreatErJ4
import Derived.Test.YtbjogdohfhdaiaaGreatErJ6
set_option linter.unusedSimpArgs false
set_option linter.unusedVariables false
set_option maxRecDepth 100000
set_option maxHeartbeats 4000000
namespace Go.Dc
open Go Go.Mx Go.Lx Go.Proofs
def zbk(p1:(List Int))(r1:(S_net_network×Int)):Nat->Int->Option (Out Unit Int)
 | 0,_=>none
 | n+1,v26=>(
bif (decide (v26<(p1.length:Int)))then(
(zaE p1 v26).bind λx6=>
((bif (decide (x6<(-1)))then(
some true)
else(
(zaE r1.1.zaf v26).bind λx9=>
some (decide (x9<=x6))):Option Bool)).bind λv41=>
bif v41 then(
some (.ret 2))
else(
zbk p1 r1 n (w64 (v26+1))))
else(
some (.go ())))
def zbG(p0:S_api_Net)(p1:(List Int)):Option Int:=
(ze1 p0).bind λr1=>
bif (r1.2 == 0)then(
bif ((p1.length:Int)==(r1.1.net.nodes.length:Int))then(
((zbk p1 r1 ((p1.length:Int) - 0+2:Int).toNat 0:Option (Out Unit Int))).bind λo=>match o with
| .go _=>(
some 0)
| .ret r=>some r)
else(
some 2))
else(
some r1.2)
theorem zhk{p0:S_api_Net}{p1:(List Int)}{r:Int}(h:zbG p0 p1=some r):Lx.Fn mC 67 [(.agg [(dI p0.grain),(fzE false zab p0.nodes)]),(fzE false (eI .i64) p1)] (dI r):=by
 refine gnO ?_;unfold zbG at h;refine zad ?_;obtain⟨r1,g2,h⟩:=bsM h;refine sSM ?_;refine fDM (zkq g2) ?_;refine cBM h (λ_ h=>?_) λ_ h=>?_
 .exact rHM h
 refine cBM h (λ_ h=>?_) λ_ h=>?_
 .exact rHM h
 obtain⟨o4,j4,h⟩:=bsM h;refine usM [] 0 (λa:Unit=>([],[],[])) λT4 hT4=>?_
 refine EvL.jn T4 (λa=>o4=.go a) ?_ ?_
 .refine wSM ?_;refine usM [5,24,25] 2 (λa:Int=>([(26,(dI a))],[(0,.gone)],[])) λT7 hT7=>?_
  refine rdM hT7 (λn a=>zbk p1 r1 n a=some o4) 0 j4 ?_;rintro n v26 j4;simp only[zbk]at j4;refine wTM hT7 ?_;refine cBM j4 (λ_ j4=>?_) λ_ j4=>?_
  .exact zsT j4 hT4
  obtain⟨x6,g7,j4⟩:=bsM j4;refine sXM (ixM g7) ?_;obtain⟨o8,j8,j4⟩:=bsM j4;obtain⟨T8,hT8⟩:=zdp hT7 λa:Bool=>uDM (T7 v26) [] [(41,(dB a))] [] []
  refine EvL.jn T8 (λa=>a=o8) ?_ ?_
  .refine wSM ?_;refine cBM j8 (λ_ j8=>?_) λ_ j8=>?_
   .obtain⟨x9,g10,j8⟩:=bsM j8;refine sXM (ixM g10) ?_;exact zde j8 hT8
   exact zde j8 hT8
  rintro v41 rfl;refine wTM hT8 ?_;refine cBM j4 (λ_ j4=>?_) λ_ j4=>?_
  .exact zcz hT7 (w64 (v26+1)) j4
  obtain rfl:=qaf j4;exact rHM h
 rintro⟨⟩ rfl;dsimp only at h;refine wTM hT4 ?_;exact rHM h
def zcD(r4:(S_factor_table×Int))(r12:(Int×Int)):List (Int×Int×(List Int))->(List Int)->Option (Out (List Int) (S_api_Factor×Int))
 | [],l6'=>some (.go l6')
 | y36 :: ys,l6'=>(
(zaE l6' y36.1).bind λx37=>
(zaE r4.1.factor.w y36.2.1).bind λx39=>
(zeC (IntKind.u64.wrap x37) (IntKind.u64.wrap x39)).bind λr41=>
((bif (r41.1 == 0)then(
some (decide (4611686018427387903<r41.2)))
else(
some true):Option Bool)).bind λv102=>
bif v102 then(
some (.ret ((S_api_Factor.mk [] [] []),6)))
else(
(zaE l6' y36.1).bind λx45=>
(zeT l6' y36.1 (w64 r41.2)).bind λy47=>
zcD r4 r12 ys y47))
def zcI(r1:(S_factor_table×Int))(r12:(Int×Int)):List (Int×Int×(List Int))->(List Int)->Option (List Int)
 | [],l6=>some l6
 | y23 :: ys,l6=>(
(zaE r1.1.factor.w y23.2.1).bind λx24=>
(zaE l6 y23.1).bind λx26=>
(zeT l6 y23.1 x24).bind λy28=>
zcI r1 r12 ys y28)
def zc3(p0:S_api_Factor)(p1:S_api_Factor):Option (S_api_Factor×Int):=
(zbL p0).bind λr1=>
bif (r1.2 == 0)then(
(zbL p1).bind λr4=>
bif (r4.2 == 0)then(
(zdy r1.1 r4.1).bind λr7=>
bif r7 then(
(zds r1.1 r4.1).bind λr10=>
(zc8 r10.2).bind λr12=>
bif (r12.2 == 0)then(
(zd7 8 r12.1 0).bind λy15=>
(zbl r1.1 r10.1).bind λr17=>
(zcc r10.2 r17).bind λr19=>
(zAB r19.1 r19.2).bind λu21=>
((zcI r1 r12 u21 y15:Option (List Int))).bind λl6=>
(zbl r4.1 r10.1).bind λr30=>
(zcc r10.2 r30).bind λr32=>
(zAB r32.1 r32.2).bind λu34=>
((zcD r4 r12 u34 l6:Option (Out (List Int) (S_api_Factor×Int)))).bind λo=>match o with
| .go l6'=>(
some ((S_api_Factor.mk r10.1 r10.2 l6'),0))
| .ret r=>some r)
else(
some ((S_api_Factor.mk [] [] []),3)))
else(
some ((S_api_Factor.mk [] [] []),2)))
else(
some ((S_api_Factor.mk [] [] []),r4.2)))
else(
some ((S_api_Factor.mk [] [] []),r1.2))
theorem znX{p0:S_api_Factor}{p1:S_api_Factor}{r:(S_api_Factor×Int)}(h:zc3 p0 p1=some r):Lx.Fn mC 112 [(.agg [(fzE false (eI .i64) p0.vars),(fzE false (eI .i64) p0.zaf),(fzE false (eI .i64) p0.w)]),(.agg [(fzE false (eI .i64) p1.vars),(fzE false (eI .i64) p1.zaf),(fzE false (eI .i64) p1.w)])] (.tup [(.agg [(fzE true (eI .i64) r.1.vars),(fzE true (eI .i64) r.1.zaf),(fzE true (eI .i64) r.1.w)]),(dI r.2)]):=by
 refine gnO ?_;unfold zc3 at h;refine zad ?_;obtain⟨r1,g2,h⟩:=bsM h;refine sSM ?_;refine fDM (zdx g2) ?_;refine cBM h (λ_ h=>?_) λ_ h=>?_
 .exact rHM h
 obtain⟨r4,g5,h⟩:=bsM h;refine sSM ?_;refine fDM (zdx g5) ?_;refine cBM h (λ_ h=>?_) λ_ h=>?_
 .exact rHM h
 obtain⟨r7,g8,h⟩:=bsM h;refine sSM ?_;refine fCM (zkw g8) ?_;refine cBM h (λ_ h=>?_) λ_ h=>?_
 .exact rHM h
 obtain⟨r10,g11,h⟩:=bsM h;refine sSM ?_;refine fCM (zk1 g11) ?_;obtain⟨r12,g13,h⟩:=bsM h;refine sSM ?_;refine fCM (ziD g13) ?_;refine cBM h (λ_ h=>?_) λ_ h=>?_
 .exact rHM h
 obtain⟨y15,g16,r17,g18,h⟩:=zgs h;refine sXM (anM ((zar g16).1.1) (anM ((zar g16).1.2) (anM @qbI (miM g16)))) ?_;refine fCM (zc2 g18) ?_;obtain⟨r19,g20,h⟩:=bsM h;refine sSM ?_;refine fDM (zdh g20) ?_;obtain⟨u21,g22,o1,j1,h⟩:=zgs h;obtain⟨T1,hM1⟩:∃ T:(List Int)->List LB,T=(λa=>[.cells [(fzE false (eI .i64) p0.vars),(fzE false (eI .i64) p0.zaf),(fzE false (eI .i64) p0.w)],.cells [(fzE false (eI .i64) p1.vars),(fzE false (eI .i64) p1.zaf),(fzE false (eI .i64) p1.w)],.cells [zez,zez,zez],.cells [(dI 0)],.cells [(fzE false (eI .i64) r1.1.factor.vars),(fzE false (eI .i64) r1.1.factor.zaf),(fzE false (eI .i64) r1.1.factor.w),(fzE false (eI .i64) r1.1.steps)],.cells [(fzE false (eI .i64) r4.1.factor.vars),(fzE false (eI .i64) r4.1.factor.zaf),(fzE false (eI .i64) r4.1.factor.w),(fzE false (eI .i64) r4.1.steps)],.els 1 (a.map ((eI .i64).c true)),.cells [(.sl 6 0 1 (Int.toNat r12.1) (some (Int.toNat r12.1)) (Int.toNat r12.1))]]):=⟨_,rfl⟩;refine EvL.zgB (S':=⟨113,[(4,(.ptr 2 0)),(5,(.ptr 3 0)),(6,(.ptr 4 0)),(8,(.ptr 5 0)),(9,(fzE true (eI .i64) r10.1)),(10,(fzE true (eI .i64) r10.2)),(12,(.ptr 7 0)),(62,(.clo 125 [] [(.fptr false ((eL (eI .i64)).c false r19.1)),(.fptr false ((eL (eI .i64)).c false r19.2))]))],T1 y15⟩) (by rw[hM1]; exact wAM) ?_;refine EvL.zgF (n0:=8) (zcV g22) rfl (bm:=.block 1 (.reg true false [⟨some 65,.load none (.s 12),none⟩,⟨some 66,.mov (.s 13),none⟩,⟨some 67,.fld 0 (.s 6),none⟩,⟨some 68,.fld 2 (.s 67),none⟩,⟨some 69,.load none (.s 68),none⟩,⟨some 70,.mov (.s 14),none⟩,⟨some 71,.idxS 1 (.s 69) (.s 70),none⟩,⟨some 72,.load none (.s 71),none⟩,⟨some 73,.idxS 1 (.s 65) (.s 66),none⟩,⟨none,.store 1 (.s 73) (.s 72),none⟩])) rfl T1 (λi a=>zcI r1 r12 (u21.drop i) a=some o1/\a.length=(Int.toNat r12.1)) (λx L1=>match x with | .normal=>∃ a,o1=a/\a.length=(Int.toNat r12.1)/\L1=T1 a | .ret=>L1.length=8/\zdo (8+1) L1/\(zjI [.cell 4 (some 3),.cell 5 none] ((.tup [(.agg [(fzE true (eI .i64) r.1.vars),(fzE true (eI .i64) r.1.zaf),(fzE true (eI .i64) r.1.w)]),(dI r.2)]))) .ret ⟨113,[(4,(.ptr 2 0)),(5,(.ptr 3 0)),(6,(.ptr 4 0)),(8,(.ptr 5 0)),(9,(fzE true (eI .i64) r10.1)),(10,(fzE true (eI .i64) r10.2)),(12,(.ptr 7 0)),(62,(.clo 125 [] [(.fptr false ((eL (eI .i64)).c false r19.1)),(.fptr false ((eL (eI .i64)).c false r19.2))]))],L1 ++ [.lost]⟩| _=>False) y15 ?_ (qau _) ?_ ?_ ?_ (λd L1 hx=>hx.elim) ?_ ?_ ?_ ?_ ?_ ?_
 .intro a; rw[hM1]; rfl
 .exact⟨(qad rfl),(qad rfl),(qad rfl),(qad rfl),qds,qds,(qad rfl),⟨qds,⟨qds,qds,qds⟩⟩,qds⟩
 .intro a; rw[hM1]; exact⟨⟨qds,qds,qds,qds⟩,⟨qds,qds,qds,qds⟩,⟨qds,qds,qds,qds⟩,⟨qds,qds⟩,⟨qds,qds,qds,qds,qds⟩,⟨qds,qds,qds,qds,qds⟩,(zdU (eI .i64) _ _ _),⟨(qad rfl),qds⟩,qds⟩
 .intro x L1 hx;cases x with
  | normal=>obtain⟨a,_,_,rfl⟩:=hx; exact⟨by rw[hM1]; rfl,by rw[hM1]; exact⟨⟨qds,qds,qds,qds⟩,⟨qds,qds,qds,qds⟩,⟨qds,qds,qds,qds⟩,⟨qds,qds⟩,⟨qds,qds,qds,qds,qds⟩,⟨qds,qds,qds,qds,qds⟩,(zdU (eI .i64) _ _ _),⟨(qad rfl),qds⟩,qds⟩⟩
  | ret=>exact⟨hx.1,hx.2.1⟩
  | exit id=>exact hx.elim
  | panic d=>exact hx.elim
 .exact⟨j1,zbh g16⟩
 .rintro i l6 y23 args G lpF hy ⟨hi1,el6⟩ ⟨rfl,rfl⟩ hkin;rw[zf7 hy]at hi1;simp only[zcI]at hi1;refine⟨_,_,rfl,rfl,?_⟩;rw[congrFun hM1 l6];refine zad ?_;obtain⟨x24,g25,x26,g27,y28,g29,hi1⟩:=zjp hi1;refine sXM (anM (ixM g25) (anM el6 (anM (za2 g27) (anM (ltM el6 g27) (anM (giM g27) (siM g29)))))) ?_;exact⟨T1 y28,by rw[hM1]; rfl,by rw[hM1]; exact zbi.mK [.k,.k,.k,.k,.k,.k,.k,.k,.k,.k] rfl rfl qds ⟨MB.cs ⟨qds,qds,qds,qds⟩,⟨MB.cs ⟨qds,qds,qds,qds⟩,⟨MB.cs ⟨qds,qds,qds,qds⟩,⟨MB.cs ⟨qds,qds⟩,⟨MB.cs ⟨qds,qds,qds,qds,qds⟩,⟨MB.cs ⟨qds,qds,qds,qds,qds⟩,⟨MB.es (eI .i64) true y28,⟨MB.cs ⟨rfl,qds⟩,⟨.same (hkin _ (by decide)),⟨MB.same (zeM _ _ _ _),qds⟩⟩⟩⟩⟩⟩⟩⟩⟩⟩,y28,⟨hi1,(zaS g29).trans el6⟩,rfl⟩
 .rintro l6 ⟨hi1,el6⟩;rw[qbB]at hi1;simp only[zcI]at hi1;exact⟨l6,(qaf hi1).symm,el6,rfl⟩
 .rintro _ ⟨l6,oeq,el6,rfl⟩;have oeq2:=oeq.symm;subst oeq2;rw[congrFun hM1 l6];refine zad ?_;obtain⟨r30,g31,h⟩:=bsM h;refine sSM ?_;refine fCM (zc2 g31) ?_;obtain⟨r32,g33,h⟩:=bsM h;refine sSM ?_;refine fDM (zdh g33) ?_;obtain⟨u34,g35,o4,j4,h⟩:=zgs h;obtain⟨T4,hM4⟩:∃ T:(List Int)->List LB,T=(λa=>[.cells [(fzE false (eI .i64) p0.vars),(fzE false (eI .i64) p0.zaf),(fzE false (eI .i64) p0.w)],.cells [(fzE false (eI .i64) p1.vars),(fzE false (eI .i64) p1.zaf),(fzE false (eI .i64) p1.w)],.cells [zez,zez,zez],.cells [(dI 0)],.cells [(fzE false (eI .i64) r1.1.factor.vars),(fzE false (eI .i64) r1.1.factor.zaf),(fzE false (eI .i64) r1.1.factor.w),(fzE false (eI .i64) r1.1.steps)],.cells [(fzE false (eI .i64) r4.1.factor.vars),(fzE false (eI .i64) r4.1.factor.zaf),(fzE false (eI .i64) r4.1.factor.w),(fzE false (eI .i64) r4.1.steps)],.els 1 (a.map ((eI .i64).c true)),.cells [(.sl 6 0 1 (Int.toNat r12.1) (some (Int.toNat r12.1)) (Int.toNat r12.1))],.lost]):=⟨_,rfl⟩;refine EvL.zgB (S':=⟨113,[(4,(.ptr 2 0)),(5,(.ptr 3 0)),(8,(.ptr 5 0)),(9,(fzE true (eI .i64) r10.1)),(10,(fzE true (eI .i64) r10.2)),(12,(.ptr 7 0)),(78,(.clo 125 [] [(.fptr false ((eL (eI .i64)).c false r32.1)),(.fptr false ((eL (eI .i64)).c false r32.2))]))],T4 l6⟩) (by rw[hM4]; exact wm0 [.k,.k,.k,.k,.k,.k,.k,.k,.k] ⟨MB.cs ⟨qds,qds,qds,qds⟩,⟨MB.cs ⟨qds,qds,qds,qds⟩,⟨MB.cs ⟨qds,qds,qds,qds⟩,⟨MB.cs ⟨qds,qds⟩,⟨MB.cs ⟨qds,qds,qds,qds,qds⟩,⟨MB.cs ⟨qds,qds,qds,qds,qds⟩,⟨MB.es (eI .i64) true l6,⟨MB.cs ⟨rfl,qds⟩,⟨MB.same trivial,qds⟩⟩⟩⟩⟩⟩⟩⟩⟩) ?_;refine EvL.zgF (n0:=9) (zcV g35) rfl (bm:=.block 3 (.seq (.reg true false [⟨some 82,.load none (.s 12),none⟩,⟨some 83,.mov (.s 15),none⟩,⟨some 84,.idxS 1 (.s 82) (.s 83),none⟩,⟨some 85,.load none (.s 84),none⟩,⟨some 86,.conv .u64 (.s 85),none⟩,⟨some 87,.fld 0 (.s 8),none⟩,⟨some 88,.fld 2 (.s 87),none⟩,⟨some 89,.load none (.s 88),none⟩,⟨some 90,.mov (.s 16),none⟩,⟨some 91,.idxS 1 (.s 89) (.s 90),none⟩,⟨some 92,.load none (.s 91),none⟩,⟨some 93,.conv .u64 (.s 92),none⟩,⟨some 94,.call 128 [(.s 86),(.s 93)],none⟩,⟨some 81,.mov (.s 94),none⟩,⟨some 95,.ext (.s 81) 0,none⟩,⟨some 96,.ext (.s 81) 1,none⟩,⟨some 17,.mov (.s 95),none⟩,⟨some 18,.mov (.s 96),none⟩]) (.seq (.seq (.scope (.reg false false [⟨some 97,.mov (.s 17),none⟩,⟨some 98,.bin .neq (.s 97) (.c (.int .u64 0)),none⟩,⟨some 99,.mov (.s 98),none⟩,⟨some 100,.mov (.s 18),some (99,false)⟩,⟨some 101,.bin .gtr (.s 100) (.c (.int .u64 4611686018427387903)),some (99,false)⟩,⟨some 102,.pick (.s 99) (.c (.bool true)) (.s 101),none⟩])) (.cond (.s 102) (.seq (.reg false false [⟨some 103,.build [(.slice none 0 0),(.slice none 0 0),(.slice none 0 0)] [],none⟩,⟨none,.store 3 (.s 4) (.s 103),none⟩,⟨none,.store 1 (.s 5) (.c (.int .i64 6)),none⟩]) (.ret)) (.skip))) (.reg false false [⟨some 104,.load none (.s 12),none⟩,⟨some 105,.mov (.s 15),none⟩,⟨some 106,.mov (.s 18),none⟩,⟨some 107,.conv .i64 (.s 106),none⟩,⟨some 108,.idxS 1 (.s 104) (.s 105),none⟩,⟨none,.store 1 (.s 108) (.s 107),none⟩])))) rfl T4 (λi a=>zcD r4 r12 (u34.drop i) a=some o4/\a.length=(Int.toNat r12.1)) (λx L1=>match x with | .normal=>∃ a,o4=.go a/\a.length=(Int.toNat r12.1)/\L1=T4 a | .ret=>L1.length=9/\zdo (9+1) L1/\(zjI [.cell 4 (some 3),.cell 5 none] ((.tup [(.agg [(fzE true (eI .i64) r.1.vars),(fzE true (eI .i64) r.1.zaf),(fzE true (eI .i64) r.1.w)]),(dI r.2)]))) .ret ⟨113,[(4,(.ptr 2 0)),(5,(.ptr 3 0)),(8,(.ptr 5 0)),(9,(fzE true (eI .i64) r10.1)),(10,(fzE true (eI .i64) r10.2)),(12,(.ptr 7 0)),(78,(.clo 125 [] [(.fptr false ((eL (eI .i64)).c false r32.1)),(.fptr false ((eL (eI .i64)).c false r32.2))]))],L1 ++ [.lost]⟩| _=>False) l6 ?_ (qau _) ?_ ?_ ?_ (λd L1 hx=>hx.elim) ?_ ?_ ?_ ?_ ?_ ?_
  .intro a; rw[hM4]; rfl
  .exact⟨(qad rfl),(qad rfl),(qad rfl),qds,qds,(qad rfl),⟨qds,⟨qds,qds,qds⟩⟩,qds⟩
  .intro a; rw[hM4]; exact⟨⟨qds,qds,qds,qds⟩,⟨qds,qds,qds,qds⟩,⟨qds,qds,qds,qds⟩,⟨qds,qds⟩,⟨qds,qds,qds,qds,qds⟩,⟨qds,qds,qds,qds,qds⟩,(zdU (eI .i64) _ _ _),⟨(qad rfl),qds⟩,qds,qds⟩
  .intro x L1 hx;cases x with
   | normal=>obtain⟨a,_,_,rfl⟩:=hx; exact⟨by rw[hM4]; rfl,by rw[hM4]; exact⟨⟨qds,qds,qds,qds⟩,⟨qds,qds,qds,qds⟩,⟨qds,qds,qds,qds⟩,⟨qds,qds⟩,⟨qds,qds,qds,qds,qds⟩,⟨qds,qds,qds,qds,qds⟩,(zdU (eI .i64) _ _ _),⟨(qad rfl),qds⟩,qds,qds⟩⟩
   | ret=>exact⟨hx.1,hx.2.1⟩
   | exit id=>exact hx.elim
   | panic d=>exact hx.elim
  .exact⟨j4,el6⟩
  .rintro i l6' y36 args G lpF hy ⟨hi4,el6'⟩ ⟨rfl,rfl⟩ hkin;rw[zf7 hy]at hi4;simp only[zcD]at hi4;refine⟨_,_,rfl,rfl,?_⟩;rw[congrFun hM4 l6'];refine zad ?_;obtain⟨x37,g38,x39,g40,r41,g42,hi4⟩:=zjp hi4;refine sXM (anM el6' (anM (za2 g38) (anM (ltM el6' g38) (anM (giM g38) (ixM g40))))) ?_;refine fCM (zmy g42) ?_;obtain⟨o5,j5,hi4⟩:=bsM hi4;refine usM [4,5,12,15,18] 11 (λa:Bool=>([(102,(dB a))],[],[])) λT5 hT5=>?_
   refine EvL.jn T5 (λa=>a=o5) ?_ ?_
   .refine wSM ?_;refine cBM j5 (λ_ j5=>?_) λ_ j5=>?_
    .obtain rfl:=qaf j5;exact⟨_,rfl,by rw[hT5]; exact zbi.mK (k0:=11) [.k,.k,.k,.k,.k,.k,.k,.k,.k,.k,.k] rfl rfl (msq (msq (msq (msq (msq (msq trivial)))))) ⟨MB.cs ⟨qds,qds,qds,qds⟩,⟨MB.cs ⟨qds,qds,qds,qds⟩,⟨MB.cs ⟨qds,qds,qds,qds⟩,⟨MB.cs ⟨qds,qds⟩,⟨MB.cs ⟨qds,qds,qds,qds,qds⟩,⟨MB.cs ⟨qds,qds,qds,qds,qds⟩,⟨MB.es (eI .i64) true l6',⟨MB.cs ⟨rfl,qds⟩,⟨MB.same trivial,⟨.same (hkin _ (by decide)),⟨MB.es (eI .i64) true y36.2.2,qds⟩⟩⟩⟩⟩⟩⟩⟩⟩⟩⟩⟩
    obtain rfl:=qaf j5;exact⟨_,rfl,by rw[hT5]; exact zbi.mK (k0:=11) [.k,.k,.k,.k,.k,.k,.k,.k,.k,.k,.k] rfl rfl (msq (msq (msq (msq (msq (msq trivial)))))) ⟨MB.cs ⟨qds,qds,qds,qds⟩,⟨MB.cs ⟨qds,qds,qds,qds⟩,⟨MB.cs ⟨qds,qds,qds,qds⟩,⟨MB.cs ⟨qds,qds⟩,⟨MB.cs ⟨qds,qds,qds,qds,qds⟩,⟨MB.cs ⟨qds,qds,qds,qds,qds⟩,⟨MB.es (eI .i64) true l6',⟨MB.cs ⟨rfl,qds⟩,⟨MB.same trivial,⟨.same (hkin _ (by decide)),⟨MB.es (eI .i64) true y36.2.2,qds⟩⟩⟩⟩⟩⟩⟩⟩⟩⟩⟩⟩
   rintro v102 rfl;refine wTM hT5 ?_;refine cBM hi4 (λ_ hi4=>?_) λ_ hi4=>?_
   .obtain⟨x45,g46,y47,g48,hi4⟩:=zgs hi4;refine sXM (anM el6' (anM (za2 g46) (anM (ltM el6' g46) (anM (giM g46) (siM g48))))) ?_;exact⟨T4 y47,by rw[hM4]; rfl,by rw[hM4]; exact zbi.mK [.k,.k,.k,.k,.k,.k,.k,.k,.k,.k,.k] rfl rfl qds ⟨MB.cs ⟨qds,qds,qds,qds⟩,⟨MB.cs ⟨qds,qds,qds,qds⟩,⟨MB.cs ⟨qds,qds,qds,qds⟩,⟨MB.cs ⟨qds,qds⟩,⟨MB.cs ⟨qds,qds,qds,qds,qds⟩,⟨MB.cs ⟨qds,qds,qds,qds,qds⟩,⟨MB.es (eI .i64) true y47,⟨MB.cs ⟨rfl,qds⟩,⟨MB.same trivial,⟨.same (hkin _ (by decide)),⟨MB.same (zeM _ _ _ _),qds⟩⟩⟩⟩⟩⟩⟩⟩⟩⟩⟩,y47,⟨hi4,(zaS g48).trans el6'⟩,rfl⟩
   obtain rfl:=qaf hi4;obtain rfl:=qaf h;exact⟨[.cells [(fzE false (eI .i64) p0.vars),(fzE false (eI .i64) p0.zaf),(fzE false (eI .i64) p0.w)],.cells [(fzE false (eI .i64) p1.vars),(fzE false (eI .i64) p1.zaf),(fzE false (eI .i64) p1.w)],.cells [zez,zez,zez],.cells [(dI 6)],.cells [(fzE false (eI .i64) r1.1.factor.vars),(fzE false (eI .i64) r1.1.factor.zaf),(fzE false (eI .i64) r1.1.factor.w),(fzE false (eI .i64) r1.1.steps)],.cells [(fzE false (eI .i64) r4.1.factor.vars),(fzE false (eI .i64) r4.1.factor.zaf),(fzE false (eI .i64) r4.1.factor.w),(fzE false (eI .i64) r4.1.steps)],.els 1 (l6'.map ((eI .i64).c true)),.cells [(.sl 6 0 1 (Int.toNat r12.1) (some (Int.toNat r12.1)) (Int.toNat r12.1))],.lost],rfl,zbi.mK [.k,.k,.k,.k,.k,.k,.k,.k,.k,.k,.k] rfl rfl qds ⟨MB.cs ⟨qds,qds,qds,qds⟩,⟨MB.cs ⟨qds,qds,qds,qds⟩,⟨MB.cs ⟨qds,qds,qds,qds⟩,⟨MB.cs ⟨qds,qds⟩,⟨MB.cs ⟨qds,qds,qds,qds,qds⟩,⟨MB.cs ⟨qds,qds,qds,qds,qds⟩,⟨MB.es (eI .i64) true l6',⟨MB.cs ⟨rfl,qds⟩,⟨MB.same trivial,⟨.same (hkin _ (by decide)),⟨MB.same (zeM _ _ _ _),qds⟩⟩⟩⟩⟩⟩⟩⟩⟩⟩⟩,rfl,⟨⟨qds,qds,qds,qds⟩,⟨qds,qds,qds,qds⟩,⟨qds,qds,qds,qds⟩,⟨qds,qds⟩,⟨qds,qds,qds,qds,qds⟩,⟨qds,qds,qds,qds,qds⟩,(zdU (eI .i64) _ _ _),⟨(qad rfl),qds⟩,qds,qds⟩,zjI.ret rfl (Snp.zDB (.cons (.zyP (.cons (zhu (eI .i64)) (.cons (zhu (eI .i64)) (.cons (zhu (eI .i64)) .nil)))) (.cons (.lit _) .nil)))⟩
  .rintro l6' ⟨hi4,el6'⟩;rw[qbB]at hi4;simp only[zcD]at hi4;exact⟨l6',(qaf hi4).symm,el6',rfl⟩
  .rintro _ ⟨l6',oeq,el6',rfl⟩;have oeq2:=oeq.symm;subst oeq2;dsimp only at h;rw[congrFun hM4 l6'];refine wSM ?_;exact rHM h
  .intro id L1 hx; exact hx.elim
  intro L1 hx; exact hx.2.2
 .intro id L1 hx; exact hx.elim
 intro L1 hx; exact hx.2.2
end Go.Dc
namespace Go.Dc
open Go Go.Mx Go.Lx
abbrev noF:S_api_Factor:=⟨[],[],[]⟩
theorem zDV{P:Nat}:((bif (((P / 18446744073709551616:Nat):Int)== 0)then some (decide ((4611686018427387903:Int)<((P % 18446744073709551616:Nat):Int)))else some true):Option Bool)=some (!decide (P<=zc1)):=by
 by_cases h:P / 18446744073709551616=0
 .rw[h,show(((0:Nat):Int)== 0)=true from rfl,qdt];congr 1
  by_cases h2:P<=zc1
  .rw[qdv h2]; exact qdw (by have:P<=4611686018427387903:=h2; omega)
  rw[qdw h2]; exact qdv (by have:¬ P<=4611686018427387903:=h2; omega)
 rw[show(((P / 18446744073709551616:Nat):Int)== 0)=false from beq_eq_false_iff_ne.2 (by omega),qdu,qdw (show ¬ P<=zc1 by intro(h2:P<=4611686018427387903); omega)];rfl
theorem zxf{x:Nat}(h:x<=zc1):IntKind.u64.wrap (x:Int)=(x:Int):=by
 have:x<=4611686018427387903:=h;rw[zyF,qbb (by omega)]
theorem zEE{P:Nat}(h:P<=zc1):w64 ((P % 18446744073709551616:Nat):Int)=(P:Int):=by
 have:P<=4611686018427387903:=h;rw[qbb (by omega),zaC (by omega)]
structure Dom (u c:List Nat):Prop where
 len:u.length=c.length
 nodup:u.Nodup
 zaF:∀ x∈c,1<=x/\x<=8
 le:c.length<=12
 prod:zac c<=4096
theorem zqc{cs:List Nat}(h:zcH (iL cs)=true):(∀ c∈cs,1<=c/\c<=8)/\zac cs<=4096/\cs.length<=12:=by
 obtain⟨ns,h1,h2⟩:=zkh h;have:cs=ns:=by rw[<- zif cs,h1,zif]
 subst this;exact h2
variable{f:Fc}
theorem Fc.zEq(hf:FcOk f)(u ds:List Nat):f.at u ds<=zc1:=by
 unfold Fc.at;generalize dot _ _=k;by_cases h:k<f.ws.length
 .rw[qag,qac h];exact hf.num _ (qao h)
 rw[qag,qbx (by omega)];exact qau _
variable{u c ds:List Nat}
theorem wat(hf:FcOk f)(hD:Dom u c)(hs:zp4 u c f.vs f.cs)(hb:zc6 c ds):zaE f.D.w ((dot ds (u.map (stp f.vs f.cs)):Nat):Int)=some ((f.at u ds:Nat):Int):=by
 rw[zq4 hD.nodup hf.len (zbn hf.inc)];show zaE (iL f.ws) _=_;have:=zkW (zp4.below hD.len hb hs);rw[ze9 (by rw[hf.size]; exact this)];rfl
theorem zg5(c ss:List Nat)(i m:Nat):zhT c ss i (m+1)=((i:Int),((dot (dig c i) ss:Nat):Int),iL (dig c i)):: zhT c ss (i+1) m:=by
 unfold zhT;rw[qb5,qaL]
theorem zAs{f:Fc}(hf:FcOk f){r12:Int×Int}{u c:List Nat}{e:Int}(hD:Dom u c)(hs:zp4 u c f.vs f.cs):∀(m i:Nat) (ys:List Nat),i+m=zac c->ys.length=i ->
  zcI (f.T,e) r12 (zhT c (u.map (stp f.vs f.cs)) i m) (iL (ys ++ List.replicate m 0))=some (iL (ys ++ (List.range' i m).map λj=>f.at u (dig c j)))
 | 0,i,ys,_,_=>by simp[zhT,zcI]
 | m+1,i,ys,h,hy=>by
  rw[zg5];show(zaE f.D.w ((dot (dig c i) (u.map (stp f.vs f.cs)):Nat):Int)).bind _=_;rw[wat hf hD hs (zfA hD.zaF (by omega)),qaa];simp only[];rw[qaX,zdf hy,qaa,zeS hy,qaa,show ys ++ f.at u (dig c i):: List.replicate m 0=(ys ++ [f.at u (dig c i)])++ List.replicate m 0 by simp,zAs hf hD hs m (i+1) _ (by omega) (by simp[hy]),qb5,qaL,qaE,qaN]
theorem zA1{g:Fc}(hg:FcOk g){r12:Int×Int}{u c:List Nat}{e:Int}(hD:Dom u c)(hs:zp4 u c g.vs g.cs){fa:Nat->Nat}(hfa:∀ j,fa j<=zc1):∀(m i:Nat) (ys:List Nat),i+m=zac c->ys.length=i ->
  zcD (g.T,e) r12 (zhT c (u.map (stp g.vs g.cs)) i m) (iL (ys ++ (List.range' i m).map fa))=
   some (bif (List.range' i m).all λj=>decide (fa j * g.at u (dig c j)<=zc1)then .go (iL (ys ++ (List.range' i m).map λj=>fa j * g.at u (dig c j)))else .ret (noF,6))
 | 0,i,ys,_,_=>by simp[zhT,zcD]
 | m+1,i,ys,h,hy=>by
  have h1:fa i<=4611686018427387903:=hfa i;have h2:g.at u (dig c i)<=4611686018427387903:=Fc.zEq hg u _;rw[zg5,qb5,qaL,qdn];show(zaE (iL (ys ++ fa i :: _)) (i:Int)).bind _=_;rw[zdf hy,qaa];simp only[];rw[show(g.T,e).1.factor.w=g.D.w from rfl,wat hg hD hs (zfA hD.zaF (by omega)),qaa,zxf h1,zxf h2,zHf (by omega) (by omega),qaa];simp only[];rw[zDV,qaa];by_cases hp:fa i * g.at u (dig c i)<=zc1
  .rw[qdv hp,qbs,qdu,qaa,zEE hp,zeS hy,qaa,
    show ys ++ fa i * g.at u (dig c i)::(List.range' (i+1) m).map fa=(ys ++ [fa i * g.at u (dig c i)])++ (List.range' (i+1) m).map fa by simp,zA1 hg hD hs hfa m (i+1) _ (by omega) (by simp[hy])]
   simp
  rw[qdw hp,qcz,qdt,Bool.false_and,qdu]
theorem zin{h:Nat->Nat}{v:Nat}:∀ {us:List Nat},v∈us->at_ us (us.map h) v=h v
 | [],hm=>by simp at hm
 | u :: us,hm=>by
  rw[qaL,zgE];cases hb:(u == v)with
  | true=>simp_all
  | false=>
   rw[qdu];rcases qav.1 hm with e | e
   .simp_all
   exact zin e
theorem zr0:∀ {vs ds:List Nat} {i:Nat} (hn:vs.Nodup) (h:i<vs.length),at_ vs ds vs[i]=ds.getD i 0
 | v :: vs,[],i,_,_=>by simp[at_]
 | v :: vs,d :: ds,0,_,_=>by rw[zgE]; simp
 | v :: vs,d :: ds,i+1,hn,h=>by
  obtain⟨h1,h2⟩:=qaR.1 hn;have hi:i<vs.length:=by simpa using h
  rw[zgE,show(v :: vs)[i+1]=vs[i]from rfl,show(v == vs[i])=false from qdy (λe=>h1 (e ▸ qao hi)),qdu,zr0 h2 hi];rfl
theorem zpv{vs:List Nat}(hn:vs.Nodup)(hl:vs.length=ds.length):vs.map (at_ vs ds)=ds:=by
 refine qbJ (by simpa using hl) λi h1 h2=>?_
 rw[List.getElem_map,zr0 hn (by simpa using h1),qag,qac h2];rfl
theorem zrR{vs ws:List Nat}:∀ {us cs:List Nat},us.length=cs.length->us.Nodup->(∀ u∈us,u∈vs/\at_ vs ws u=at_ us cs u)->zp4 vs ws us cs
 | [],[],_,_,_=>trivial
 | [],c :: cs,h,_,_=>by simp at h
 | u :: us,[],h,_,_=>by simp at h
 | u :: us,c :: cs,hl,hn,h=>by
  obtain⟨h1,h2⟩:=qaR.1 hn;refine⟨⟨(h u qaj).1,?_⟩,zrR (by simpa using hl) h2 λx hx=>⟨(h x (qah _ hx)).1,?_⟩⟩<;> grind [zgE]
def Agr(f g:Fc):Prop:=∀ v,v∈f.vs->v∈g.vs->at_ f.vs f.cs v=at_ g.vs g.cs v
variable{g:Fc}
theorem zpC(hf:FcOk f)(hg:FcOk g):zgJ f g 0 f.vs=true↔Agr f g:=by
 have key:∀(m i:Nat),i+m=f.vs.length->(zgJ f g i (f.vs.drop i)=true↔∀ v∈f.vs.drop i,v∈g.vs->at_ f.vs f.cs v=at_ g.vs g.cs v):=by
  intro m;induction m with
  | zero=>grind [zgJ]
  | succ m ih=>
   intro i h;have hi:i<f.vs.length:=by omega
   rw[qay hi];rw[show zgJ f g i (f.vs[i]:: f.vs.drop (i+1))=((match pos g.vs f.vs[i]with | none=>true | some k=>g.cs.getD k 0 == f.cs.getD i 0) && zgJ f g (i+1) (f.vs.drop (i+1)))from rfl,qai,ih (i+1) (by omega),List.forall_mem_cons];refine and_congr ?_ Iff.rfl;rw[zr0 (zbn hf.inc) hi];cases hp:pos g.vs f.vs[i]with
   | none=>exact⟨λ_ hm=>absurd hm (zh4 hp),λ_=>rfl⟩
   | some k=>
    obtain⟨hk,e⟩:=zdC hp;rw[zsO hp];simp only[qdz];exact⟨λh _=>h.symm,λh=>(h (e ▸ qao hk)).symm⟩
 have:=key f.vs.length 0 (by omega)
 rwa [qbq]at this
def ucs(f g:Fc):List Nat:=(uni f g).map (cdF f g)
theorem zG3{v:Nat}(h:v∈f.vs):cdF f g v=at_ f.vs f.cs v:=by unfold cdF; rw[qdv h,qdt]
theorem zHm(ha:Agr f g){v:Nat}(h:v∈g.vs):cdF f g v=at_ g.vs g.cs v:=by
 grind [cdF,Agr]
theorem zGN(hf:FcOk f)(hg:FcOk g):zp4 (uni f g) (ucs f g) f.vs f.cs:=
 zrR hf.len (zbn hf.inc) λu hu=>by
  have hm:=(zeL hf hg).2 (.inl hu);exact⟨hm,by unfold ucs; rw[zin hm,zG3 hu]⟩
theorem zHF(hf:FcOk f)(hg:FcOk g)(ha:Agr f g):zp4 (uni f g) (ucs f g) g.vs g.cs:=
 zrR hg.len (zbn hg.inc) λu hu=>by
  have hm:=(zeL hf hg).2 (.inr hu);exact⟨hm,by unfold ucs; rw[zin hm,zHm ha hu]⟩
theorem zqi(h:zcH (iL (ucs f g))=true):Dom (uni f g) (ucs f g):=by
 grind [zqc,ucs,zbn,zi7,Go.Dc.Dom]
def zqA(f g:Fc):Bool:=(List.range' 0 (zac (ucs f g))).all λj=>decide (f.at (uni f g) (dig (ucs f g) j)* g.at (uni f g) (dig (ucs f g) j)<=zc1)
def ztV(f g:Fc):Fc:=⟨uni f g,ucs f g,(List.range' 0 (zac (ucs f g))).map λj=>f.at (uni f g) (dig (ucs f g) j)* g.at (uni f g) (dig (ucs f g) j)⟩
def mulR(f g:Fc):S_api_Factor×Int:=bif zcH (iL (ucs f g))then bif zqA f g then((ztV f g).D,0)else(noF,6)else(noF,3)
theorem zxQ(hf:FcOk f)(v:Nat):stp f.vs f.cs v<=4096:=by
 rw[zlf hf.len];cases hp:pos f.vs v with
 | none=>exact qau _
 | some k=>
  simp only;by_cases h:k<(zaJ f.cs).length
  .rw[qag,qac h];exact zng (λc hc=>(hf.zaF c hc).1) hf.prod _ (qao h)
  simp_all
theorem zig(a b:List Int):zcc a b=some (a,b):=by rfl
theorem zpL(hf:FcOk f)(hD:Dom u c):zAB (iL c) (iL (u.map (stp f.vs f.cs)))=some (zhT c (u.map (stp f.vs f.cs)) 0 (zac c)):=
 zw4 hD.zaF hD.le hD.prod (by rw[qak,hD.len]) λs hs=>by
  grind [zxQ]
theorem zB9(hf:FcOk f)(hg:FcOk g):zc3 f.D g.D=some (bif zgJ f g 0 f.vs then mulR f g else(noF,2)):=by
 unfold zc3 mulR;rw[ziF hf,qaa];simp only[];rw[show((0:Int)== 0)=true from rfl,qdt,ziF hg,qaa];simp only[];rw[show((0:Int)== 0)=true from rfl,qdt,zBC hf hg,qaa];cases ha:zgJ f g 0 f.vs with
 | false=>rfl
 | true=>
  have hA:=(zpC hf hg).1 ha;rw[qdt,qdt,zBF hf hg,qaa];show(zc8 (iL (ucs f g))).bind _=_;rw[zAb,qaa];cases hc:zcH (iL (ucs f g))with
  | false=>rfl
  | true=>
   have hD:=zqi hc;rw[qdt,qdt];have hlu:=zAH f g;have hp:=hD.prod;simp only[];rw[show((0:Int)== 0)=true from rfl,qdt,zkA,zdn (by omega),qaa,zqt hf (by omega),qaa,zig,qaa];simp only[];rw[show iL ((uni f g).map (cdF f g))=iL (ucs f g)from rfl,zpL hf hD,qaa,<- zgG];have e1:=zAs hf (r12:=((zac (ucs f g):Nat),0)) (e:=0) hD (zGN hf hg) (zac (ucs f g)) 0 [] (by omega) rfl;rw[qaU]at e1;rw[e1,qaa,zqt hg (by omega),qaa,zig,qaa];simp only[];rw[zpL hg hD,qaa];have e2:=zA1 hg (r12:=((zac (ucs f g):Nat),0)) (e:=0) hD (zHF hf hg hA) (fa:=λj=>f.at (uni f g) (dig (ucs f g) j)) (λj=>Fc.zEq hf _ _) (zac (ucs f g)) 0 [] (by omega) rfl;rw[e2,qaa];unfold zqA;cases hk:(List.range' 0 (zac (ucs f g))).all λj=>decide (f.at (uni f g) (dig (ucs f g) j)* g.at (uni f g) (dig (ucs f g) j)<=zc1)with
   | false=>rfl
   | true=>rfl
theorem zIE(b:Nat):((b:Int)== 0)=(b == 0):=zvS b 0
theorem zGz{a b:Nat}(hb:¬ b=0)(ha:a<=zc1):zkp .i64 (a:Int) (b:Int)=some ((a / b:Nat):Int):=by
 have h1:a<=4611686018427387903:=ha;have h2:a / b<=a:=qcC a b;unfold zkp;rw[zIE,qdy hb,qdu,show((a:Int).tdiv (b:Int))=((a / b:Nat):Int)from rfl];exact congrArg some (zaC (n:=a / b) (by omega))
def Fc.get(f:Fc)(j:Nat):Nat:=f.ws.getD j 0
theorem Fc.zAC(hf:FcOk f)(k:Nat):f.get k<=zc1:=by
 unfold Fc.get;by_cases h:k<f.ws.length
 .rw[qag,qac h];exact hf.num _ (qao h)
 rw[qag,qbx (by omega)];exact qau _
theorem zFG{i:Nat}(hf:FcOk f)(h:i<zac f.cs):zaE f.D.w (i:Int)=some ((f.get i:Nat):Int):=ze9 (by rw[hf.size]; exact h)
def zlr(v:Nat):Nat:=[2,3,1,2,2].getD v 0
theorem zBY(hf:FcOk f)(hg:FcOk g)(hc:zcH (iL (ucs f g))=true)(hk:zqA f g=true):FcOk (ztV f g):=by
 have hD:=zqi hc;refine⟨hD.len,hD.le,hD.zaF,hD.prod,by simp[ztV],zi7 f g,zAF,?_⟩;intro x hx;obtain⟨j,hj,rfl⟩:=qaH.1 hx;exact of_decide_eq_true (qcs.1 hk j hj)
section
variable {r4 r6 r8 r10 r12 r14 r16 r18:S_api_Factor}
end
def cof(f:Fc)(us:List Nat):List Nat:=us.map (at_ f.vs f.cs)
structure Sel (f:Fc) (us:List Nat):Prop where
 inc:us.Pairwise (· < ·)
 mem:∀ u∈us,u∈f.vs
theorem zk2:∀ {a b:List Nat},a.Pairwise (· < ·)->b.Pairwise (· < ·)->(∀ x∈a,x∈b)->a.Sublist b
 | [],b,_,_,_=>List.nil_sublist b
 | a :: xs,[],_,_,h=>by have:=h a qaj; simp at this
 | a :: xs,b :: bs,ha,hb,h=>by
  obtain⟨ha1,ha2⟩:=qa4.1 ha;obtain⟨hb1,hb2⟩:=qa4.1 hb;rcases qav.1 (h a qaj)with e | h1
  .subst e;refine(zk2 ha2 hb2 λx hx=>?_).cons_cons a;rcases qav.1 (h x (qah _ hx))with e | h2
   .have:=ha1 x hx; omega
   exact h2
  refine(zk2 ha hb2 λx hx=>?_).cons b;rcases qav.1 (h x hx)with e | h2
  .have h3:=hb1 a h1;rcases qav.1 hx with e2 | h4
   .omega
   have:=ha1 x h4; omega
  exact h2
theorem zjS:∀ {a b:List Nat},a.Sublist b->(∀ c∈b,1<=c)->zac a<=zac b
 | _,_,.slnil,_=>qap _
 | a,b :: bs,.cons _ h,hb=>by
  have h1:=zjS h λc hc=>hb c (qah _ hc)
  have h2:=qbi (hb b qaj) (qap (zac bs));show zac a<=b * zac bs;omega
 | a :: xs,_ :: bs,.cons_cons _ h,hb=>qbi (qap a) (zjS h λc hc=>hb c (qah _ hc))
variable{f:Fc}{us:List Nat}
theorem zBc(hf:FcOk f)(hs:Sel f us):(cof f us).Sublist f.cs:=by
 have h:=(zk2 hs.inc hf.inc hs.mem).map (at_ f.vs f.cs)
 rwa [zpv (zbn hf.inc) hf.len]at h
theorem zhG(hf:FcOk f)(hs:Sel f us):Dom us (cof f us):=by
 have h:=zBc hf hs;exact⟨by simp[cof],zbn hs.inc,λx hx=>hf.zaF x (h.subset hx),qaq h.length_le hf.le,qaq (zjS h λc hc=>(hf.zaF c hc).1) hf.prod⟩
theorem zBN(hs:Sel f us):zp4 f.vs f.cs us (cof f us):=
 zrR (by simp[cof]) (zbn hs.inc) λu hu=>⟨hs.mem u hu,by unfold cof; rw[zin hu]⟩
def ix(f:Fc)(us:List Nat)(i:Nat):Nat:=dot (us.map (at_ f.vs (dig f.cs i))) (zaJ (cof f us))
theorem zEM(hf:FcOk f)(hs:Sel f us){i:Nat}(h:i<zac f.cs):ix f us i<zac (cof f us):=
 zkW (zp4.below hf.len (zfA hf.zaF h) (zBN hs))
theorem zD1(hf:FcOk f)(hs:Sel f us){i:Nat}:dot (dig f.cs i) (f.vs.map (stp us (cof f us)))=ix f us i:=by
 rw[zq4 (zbn hf.inc) (by simp[cof]) (zbn hs.inc)]; rfl
def gop(b:Bool)(x y:Nat):Nat:=bif b then max x y else x+y
def zj9(b:Bool)(f:Fc)(us:List Nat):Nat->Nat->List Nat->Option (List Nat)
 | 0,_,l=>some l
 | m+1,i,l=>bif decide (gop b (l.getD (ix f us i) 0) (f.get i)<=zc1)then zj9 b f us m (i+1) (l.set (ix f us i) (gop b (l.getD (ix f us i) 0) (f.get i)))else none
theorem zka{b:Bool}{f:Fc}{us:List Nat}:∀ {m i:Nat} {l l':List Nat},zj9 b f us m i l=some l'->l'.length=l.length
 | 0,_,_,_,h=>by cases h; rfl
 | m+1,i,l,l',h=>by
  unfold zj9 at h;cases hd:decide (gop b (l.getD (ix f us i) 0) (f.get i)<=zc1)with
  | false=>rw[hd]at h; cases h
  | true=>rw[hd,qdt]at h; rw[zka h,qaw]
theorem zrz{b:Bool}{f:Fc}{us:List Nat}:∀ {m i:Nat} {l l':List Nat},(∀ x∈l,x<=zc1)->zj9 b f us m i l=some l'->∀ x∈l',x<=zc1
 | 0,_,_,_,hl,h=>by cases h; exact hl
 | m+1,i,l,l',hl,h=>by
  unfold zj9 at h;cases hd:decide (gop b (l.getD (ix f us i) 0) (f.get i)<=zc1)with
  | false=>rw[hd]at h; cases h
  | true=>
   rw[hd,qdt]at h;refine zrz (λx hx=>?_) h;rcases qbV hx with h1 | h1
   .exact hl x h1
   rw[h1]; exact of_decide_eq_true hd
theorem zqd(hf:FcOk f)(hs:Sel f us):us.length<=12:=by
 have:=(zk2 hs.inc hf.inc hs.mem).length_le;have:=hf.len; have:=hf.le;omega
theorem zBE{b:Bool}{x y:Nat}(hx:x<=zc1)(hy:y<=zc1):(bif b then zly (x:Int) (y:Int)else w64 ((x:Int)+(y:Int)))=((gop b x y:Nat):Int):=by
 have h1:x<=4611686018427387903:=hx;have h2:y<=4611686018427387903:=hy;cases b with
 | true=>
  show zly (x:Int) (y:Int)=((max x y:Nat):Int);unfold zly;split<;>omega
 | false=>
  show w64 ((x:Int)+(y:Int))=((x+y:Nat):Int);rw[zgh (by omega) (by omega)]; omega
theorem zBv{l:List Nat}(h:∀ x∈l,x<=zc1)(k:Nat):l.getD k 0<=zc1:=by
 by_cases hk:k<l.length
 .rw[qag,qac hk];exact h _ (qao hk)
 rw[qag,qbx (by omega)];exact qau _
variable{xs:List Nat}{k:Nat}
theorem zHS{y:Nat}(h:k<xs.length):zeT (iL xs) (k:Int) (y:Int)=some (iL (xs.set k y)):=by
 rw[zfr (by rw[zal]; exact h)];simp[iL]
def gat(b:Bool)(f:Fc)(us:List Nat):Option (List Nat):=zj9 b f us (zac f.cs) 0 (List.replicate (zac (cof f us)) 0)
theorem zs4{n:Nat}:∀ x∈List.replicate n 0,x<=zc1:=λx hx=>by rw[(qcv.1 hx).2]; exact qau _
theorem zlG(cs:List Nat):∀(i:Nat) (h:i<cs.length),zac (cs.drop i)=cs[i] * zac (cs.drop (i+1)):=by
 intro i h;rw[qay h]; rfl
theorem zAk{f:Fc}(hf:FcOk f){us:List Nat}(hs:Sel f us):∀(n i a:Nat),i<=us.length->us.length - i<n->a * zac ((cof f us).drop i)<=4096->1<=a ->
  zaO (iL us) f.T n (a:Int) (i:Int) (iL ((cof f us).take i ++ List.replicate (us.length - i) 0))=some (((a * zac ((cof f us).drop i):Nat):Int),iL (cof f us))
 | 0,_,_,_,h,_,_=>absurd h (qam _)
 | n+1,i,a,hi,hn,ha,h1=>by
  have hl:=zqd hf hs;have hcl:(cof f us).length=us.length:=by simp[cof]
  unfold zaO;rw[zal];rcases qa0 i us.length with h3 | h3
  .have h3c:i<(cof f us).length:=by omega
   have hcc:=(zhG hf hs).zaF (cof f us)[i] (qao h3c);have hpos:0<zac ((cof f us).drop (i+1)):=zcr λc hc=>(zhG hf hs).zaF c (qcB hc)
   have e0:=zlG (cof f us) i h3c;have ea:a * zac ((cof f us).drop i)=a * (cof f us)[i] * zac ((cof f us).drop (i+1)):=by rw[e0,qa3]
   have hle:a * (cof f us)[i]<=4096:=qaq (qaI _ hpos) (ea ▸ ha);have ih:=zAk hf hs n (i+1) (a * (cof f us)[i]) h3 (by omega) (ea ▸ ha) (qc1 (by omega) (by omega));have ht:((cof f us).take i).length=i:=by simp; omega
   have e:List.replicate (us.length - i) 0=0 :: List.replicate (us.length - (i+1)) 0:=by
    rw[show us.length - i=(us.length - (i+1))+1 by omega,qaX]
   rw[qbG h3c,qaE,qaN]at ih;obtain⟨k,hk⟩:=zkK (hs.mem us[i] (qao h3));have ec:at_ f.vs f.cs us[i]=(cof f us)[i]:=by simp[cof]
   rw[zA7 h3,qdt,za5 h3,qaa,zjq hf,qaa,zd1,hk,show f.T.factor=f.D from rfl,zje hf hk,qaa,ec,e,zdf ht,qaa,zeS ht,qaa,<- qaZ,zaC (by omega),zai (by omega),ea];exact ih
  grind [qaP,zac,Nat]
theorem zk3{g:Nat->Nat}{p:Nat}:∀ {vs:List Nat} {v k:Nat},vs.Nodup->pos vs v=some k->(vs.map g).set k p=vs.map λu=>bif v == u then p else g u
 | [],_,_,_,h=>by cases h
 | u :: us,v,k,hn,h=>by
  obtain⟨h1,h2⟩:=qaR.1 hn;rw[show pos (u :: us) v=bif u == v then some 0 else(pos us v).map (· + 1)from rfl]at h;cases hb:(u == v)with
  | true=>
   grind [qaT]
  | false=>
   rw[hb,qdu]at h;cases hp:pos us v with
   | none=>rw[hp]at h; cases h
   | some j=>
    rw[hp]at h;cases h;rw[qaL,qaL,qcf,zk3 h2 hp,show(v == u)=false from qdy (λe=>ne_of_beq_false hb e.symm),qdu]
theorem zAy{f:Fc}(hf:FcOk f){us:List Nat}(hs:Sel f us):∀(k n:Nat),k<=us.length->k<n ->
  zaP (iL us) f.T (iL (cof f us)) n ((zac ((cof f us).drop k):Nat):Int) ((k:Int) - 1) (iL (f.vs.map (stp (us.drop k) ((cof f us).drop k))))=some (iL (f.vs.map (stp us (cof f us))))
 | _,0,_,h=>absurd h (qam _)
 | 0,n+1,_,_=>by
  rfl
 | k+1,n+1,hk,hn=>by
  have hl:=zqd hf hs;have hD:=zhG hf hs;have hcl:(cof f us).length=us.length:=by simp[cof]
  have h3:k<us.length:=hk;have h3c:k<(cof f us).length:=by omega
  have ih:=zAy hf hs k n (by omega) (by omega);have e0:=zlG (cof f us) k h3c;have hle:zac ((cof f us).drop k)<=4096:=qaq (zih (λc hc=>(hD.zaF c hc).1) k) hD.prod;obtain⟨j,hj⟩:=zkK (hs.mem us[k] (qao h3));obtain⟨hj2,_⟩:=zdC hj;have em:(f.vs.map (stp (us.drop (k+1)) ((cof f us).drop (k+1)))).set j (zac ((cof f us).drop (k+1)))=f.vs.map (stp (us.drop k) ((cof f us).drop k)):=by
   rw[zk3 (zbn hf.inc) hj,qay h3,qay h3c];rfl
  unfold zaP;rw[pred_succ,zIw,qdt,za5 h3,qaa,zjq hf,qaa,zd1,hj,show ixZ (some j)=(j:Int)from rfl,ze9 (by simpa using hj2),qaa,zHS (by simpa using hj2),qaa,za5 h3c,qaa,<- qaZ,qaS,<- e0,zaC (by omega),zgh (by omega) (by omega),em];exact ih
theorem zAw{f:Fc}(hf:FcOk f){us:List Nat}(hs:Sel f us){x:Int}:∀(m i:Nat) (l:List Nat),i+m=zac f.cs->l.length=zac (cof f us)->(∀ x∈l,x<=zc1)->
  ∃ z,zaB f.T x (zhT f.cs (f.vs.map (stp us (cof f us))) i m) (iL l)=some (match zj9 false f us m i l with | some l'=>.go (iL l')| none=>.brk z)
 | 0,i,l,_,_,_=>⟨[],rfl⟩
 | m+1,i,l,h,hl,hb=>by
  have hi:i<zac f.cs:=by omega
  have hk:=zEM hf hs hi;have hkl:ix f us i<l.length:=by omega
  have g1:=zBv hb (ix f us i);have g2:=Fc.zAC hf i;have e:=zBE (b:=false) g1 g2;rw[qdu]at e;rw[zg5,zD1 hf hs];have es:zeF ((l.getD (ix f us i) 0:Nat):Int) ((f.get i:Nat):Int)=some (((gop false (l.getD (ix f us i) 0) (f.get i):Nat):Int),decide (gop false (l.getD (ix f us i) 0) (f.get i)<=zc1)):=by
   unfold zeF;rw[e];refine congrArg (λb:Bool=>some (((gop false (l.getD (ix f us i) 0) (f.get i):Nat):Int),b)) (decide_eq_decide.2 ⟨λh=>?_,λh=>?_⟩)<;> grind
  have e1:∀ ys,zaB f.T x (((i:Int),((ix f us i:Nat):Int),iL (dig f.cs i)):: ys) (iL l)=bif decide (gop false (l.getD (ix f us i) 0) (f.get i)<=zc1)then zaB f.T x ys (iL (l.set (ix f us i) (gop false (l.getD (ix f us i) 0) (f.get i))))else some (.brk (iL (l.set (ix f us i) (gop false (l.getD (ix f us i) 0) (f.get i))))):=by
   intro ys;show(zaE (iL l) ((ix f us i:Nat):Int)).bind _=_;rw[ze9 hkl,qaa];simp only[];rw[show zaE f.T.factor.w (i:Int)=some ((f.get i:Nat):Int)from zFG hf hi,qaa,es,qaa]
   grind [zHS]
  rw[e1];unfold zj9;cases hd:decide (gop false (l.getD (ix f us i) 0) (f.get i)<=zc1)with
  | false=>exact⟨_,rfl⟩
  | true=>
   rw[qdt,qdt];refine zAw hf hs m (i+1) _ (by omega) (by rw[qaw]; exact hl) λx hx=>?_<;>grind
theorem zCB(f:Fc):f.vs.map (stp [] [])=List.replicate f.vs.length 0:=by
 simp_all [List.eq_replicate_iff,stp]
theorem zD6(hf:FcOk f)(hs:Sel f us)(v:Nat):stp us (cof f us) v<=4096:=by
 have hD:=zhG hf hs;rw[zlf hD.len];cases hp:pos us v with
 | none=>exact qau _
 | some k=>
  simp only;by_cases h:k<(zaJ (cof f us)).length
  .rw[qag,qac h];exact zng (λc hc=>(hD.zaF c hc).1) hD.prod _ (qao h)
  simp_all
theorem zr9(hf:FcOk f)(hs:Sel f us):za4 f.T (iL us)=some (match gat false f us with | some l=>(⟨iL us,iL (cof f us),iL l⟩,0)| none=>(noF,6)):=by
 have hl:=zqd hf hs;have hD:=zhG hf hs;have hp:=hD.prod;have hpf:=hf.prod;have hfl:=hf.le;have hfl2:=hf.len;have hcl:(cof f us).length=us.length:=by simp[cof]
 unfold za4;have h1:=zAk hf hs (us.length+2) 0 1 (qau _) (by omega) (by rw[qbq]; omega) (qap _);rw[qb0,qaU,qdf,zgG,qbq,qa2]at h1;rw[zal,zdn (by omega),qaa,zaK,show zaO (iL us) f.T (us.length+2) 1 0 (List.replicate us.length 0)=_ from h1,qaa];simp only[];rw[zdn (by omega),qaa,show f.T.factor.vars=iL f.vs from rfl,zal,zdn (by omega),qaa,zgh (by omega) (by omega),show(((us.length:Int) - 1) - 0+2).toNat=us.length+1 by omega];have h2:=zAy hf hs us.length (us.length+1) (qap _) (by omega);rw[qbB,qcq (by omega),zCB,zgG,show zac ([]:List Nat)=1 from rfl]at h2;rw[show zaP (iL us) f.T (iL (cof f us)) (us.length+1) 1 ((us.length:Int) - 1) (List.replicate f.vs.length 0)=_ from h2,qaa,zig,qaa];simp only[];rw[show f.T.factor.zaf=iL f.cs from rfl,zw4 hf.zaF hf.le hf.prod (by rw[qak,hf.len]) (λs hs2=>by obtain⟨v,_,rfl⟩:=qaH.1 hs2; exact zD6 hf hs v),qaa];obtain⟨z,h3⟩:=zAw hf hs (x:=((zac (cof f us):Nat):Int)) (zac f.cs) 0 (List.replicate (zac (cof f us)) 0) (by omega) (by simp) zs4;rw[<- zgG,h3,qaa];unfold gat;cases zj9 false f us (zac f.cs) 0 (List.replicate (zac (cof f us)) 0)<;> rfl
def rest(f:Fc)(v:Nat):List Nat:=f.vs.filter λu=>!(u == v)
theorem ziE(hf:FcOk f)(v:Nat):Sel f (rest f v):=⟨qaK _ hf.inc,λu hu=>(qaA.1 hu).1⟩
variable{v:Nat}
theorem zqv:∀ {vs:List Nat},v ∉ vs->vs.filter (λu=>!(u == v))=vs:=λ{vs} h=>qc2.2 λu hu=>by
 rw[show(u == v)=false from qdy (λe=>h (e ▸ hu))]; rfl
theorem zqY:∀ {vs:List Nat} {v k:Nat},vs.Nodup->pos vs v=some k->vs.take k ++ vs.drop (k+1)=vs.filter λu=>!(u == v)
 | [],_,_,_,h=>by cases h
 | u :: us,v,k,hn,h=>by
  obtain⟨h1,h2⟩:=qaR.1 hn;rw[show pos (u :: us) v=bif u == v then some 0 else(pos us v).map (· + 1)from rfl]at h;cases hb:(u == v)with
  | true=>
   rw[hb,qdt]at h;cases h;have:u=v:=by simpa using hb
   subst this;rw[qbM (by simp),zqv h1];rfl
  | false=>
   rw[hb,qdu]at h;cases hp:pos us v with
   | none=>rw[hp]at h; cases h
   | some j=>
    rw[hp]at h;cases h;rw[qbN (by rw[hb]; rfl),<- zqY h2 hp];rfl
theorem zH1(h:k<xs.length)(hl:xs.length<1000):zwo (iL xs) (k:Int) (w64 ((k:Int)+1))=some (iL (xs.take k ++ xs.drop (k+1))):=by
 rw[zai (by omega)];unfold zwo;rw[if_pos ⟨⟨by omega,by omega,by rw[zal]; omega⟩,by rw[zal]; omega⟩,qax,qax];simp[iL]
def zI4(o:Option (List Nat))(f:Fc)(us:List Nat):S_api_Factor×Int:=match o with
 | some l=>(⟨iL us,iL (cof f us),iL l⟩,0)
 | none=>(noF,6)
theorem zo2(hf:FcOk f)(hp:pos f.vs v=some k):zex 8 (iL f.vs)=some (iL f.vs)/\zwo (iL f.vs) (k:Int) (w64 ((k:Int)+1))=some (iL (rest f v)):=by
 have h1:=hf.le;have h2:=hf.len;obtain⟨hk,_⟩:=zdC hp;refine⟨zg4 (by rw[zal]; omega),?_⟩;rw[zH1 hk (by omega),zqY (zbn hf.inc) hp];rfl
theorem zG1(hf:FcOk f)(hp:pos f.vs v=some k):zb5 f.D (v:Int)=some (zI4 (gat false f (rest f v)) f (rest f v)):=by
 obtain⟨h1,h2⟩:=zo2 hf hp;unfold zb5 zdj;rw[ziF hf,qaa];simp only[];rw[show((0:Int)== 0)=true from rfl,qdt,zjq hf,qaa,zd1,hp,show ixZ (some k)=(k:Int)from rfl,show decide ((k:Int)<0)=false from qdw (by omega),qdu,show f.T.factor.vars=iL f.vs from rfl,h1,qaa,h2,qaa,zr9 hf (ziE hf v),qaa];cases gat false f (rest f v)<;> rfl
def gF(f:Fc)(us l:List Nat):Fc:=⟨us,cof f us,l⟩
theorem zGn(hf:FcOk f){l:List Nat}(hs:Sel f us){b:Bool}(h:gat b f us=some l):FcOk (gF f us l):=by
 have hD:=zhG hf hs;exact⟨hD.len,hD.le,hD.zaF,hD.prod,(zka h).trans (by simp[gF]),hs.inc,λv hv=>hf.var v (hs.mem v hv),zrz zs4 h⟩
def zii:List Nat->Nat->Nat->Nat->Nat
 | [],_,_,i=>i
 | _ :: cs,0,p,i=>p * zac cs+i
 | _ :: cs,k+1,p,i=>(i / zac (cs.eraseIdx k))* zac cs+zii cs k p (i % zac (cs.eraseIdx k))
theorem zfC{cs:List Nat}(h:∀ c∈cs,1<=c/\c<=8)(k:Nat):∀ c∈cs.eraseIdx k,1<=c/\c<=8:=λc hc=>h c (List.mem_of_mem_eraseIdx hc)
theorem znf:∀ {cs:List Nat} {k p i:Nat},(∀ c∈cs,1<=c/\c<=8)->(hk:k<cs.length)->p<cs[k]->i<zac (cs.eraseIdx k)->zii cs k p i<zac cs
 | [],k,_,_,_,hk,_,_=>by simp at hk
 | c :: cs,0,p,i,_,_,hp,hi=>by
  have h1:(p+1)* zac cs<=c * zac cs:=qas _ hp
  grind [zac,zii]
 | c :: cs,k+1,p,i,hc,hk,hp,hi=>by
  have hc2:=λd hd=>hc d (qah c hd)
  have hi2:i<c * zac (cs.eraseIdx k):=hi;have hq:0<zac (cs.eraseIdx k):=zcr (zfC hc2 k);have h1:=znf hc2 (by simpa using hk) hp (qa7 i hq);have h2:i / zac (cs.eraseIdx k)<c:=qbQ (by rwa [qaS]);have h3:(i / zac (cs.eraseIdx k)+1)* zac cs<=c * zac cs:=qas _ h2
  grind [zac,zii]
theorem dm1{a b P:Nat}(h:b<P):(a * P+b) / P=a:=by
 grind [qcy,qb6]
theorem dm2{a b P:Nat}(h:b<P):(a * P+b) % P=b:=by
 grind [qbz,qbb]
theorem znq:∀ {cs:List Nat} {k p i:Nat},(∀ c∈cs,1<=c/\c<=8)->(hk:k<cs.length)->p<cs[k]->i<zac (cs.eraseIdx k)->(dig cs (zii cs k p i)).getD k 0=p/\(dig cs (zii cs k p i)).eraseIdx k=dig (cs.eraseIdx k) i
 | [],k,_,_,_,hk,_,_=>by simp at hk
 | c :: cs,0,p,i,_,_,hp,hi=>by
  grind [dig,zii,dm1,dm2]
 | c :: cs,k+1,p,i,hc,hk,hp,hi=>by
  have hc2:=λd hd=>hc d (qah c hd)
  have hq:0<zac (cs.eraseIdx k):=zcr (zfC hc2 k);have h1:=znf hc2 (by simpa using hk) hp (qa7 i hq);obtain⟨h2,h3⟩:=znq hc2 (by simpa using hk) hp (qa7 i hq)
  grind [dig,zii,dm1,dm2]
theorem zsN:∀ {cs:List Nat} {k p j:Nat},(∀ c∈cs,1<=c/\c<=8)->(hk:k<cs.length)->j<zac cs->(dig cs j).getD k 0=p->∃ i,i<zac (cs.eraseIdx k)/\zii cs k p i=j
 | [],k,_,_,_,hk,_,_=>by simp at hk
 | c :: cs,0,p,j,hc,_,hj,hd=>by
  have hp:0<zac cs:=zcr λd hd=>hc d (qah c hd)
  have e:j / zac cs=p:=hd;refine⟨j % zac cs,qa7 _ hp,?_⟩<;> grind [qcd,zii]
 | c :: cs,k+1,p,j,hc,hk,hj,hd=>by
  have hc2:=λd hd=>hc d (qah c hd)
  have hp:0<zac cs:=zcr hc2;have hj2:j<c * zac cs:=hj;have e:(dig cs (j % zac cs)).getD k 0=p:=by rw[<- hd]; rfl
  obtain⟨i,h1,h2⟩:=zsN hc2 (by simpa using hk) (qa7 _ hp) e;have ha:j / zac cs<c:=qbQ (by rwa [qaS]);refine⟨j / zac cs * zac (cs.eraseIdx k)+i,?_,?_⟩
  .show _<c * zac (cs.eraseIdx k);have h3:(j / zac cs+1)* zac (cs.eraseIdx k)<=c * zac (cs.eraseIdx k):=qas _ ha
   grind
  grind [zii,dm1,qcd]
theorem zst:∀ {cs:List Nat} {k p i:Nat},(∀ c∈cs,1<=c/\c<=8)->(hk:k<cs.length)->i<zac (cs.eraseIdx k)->dot (dig (cs.eraseIdx k) i) ((zaJ cs).eraseIdx k)+p * (zaJ cs).getD k 0=zii cs k p i
 | [],k,_,_,_,hk,_=>by simp at hk
 | c :: cs,0,p,i,hc,_,hi=>by
  have h:dot (dig cs i) (zaJ cs)=i:=zjk (λd hd=>hc d (qah c hd)) hi
  grind [zaJ,zii]
 | c :: cs,k+1,p,i,hc,hk,hi=>by
  have hc2:=λd hd=>hc d (qah c hd)
  have hq:0<zac (cs.eraseIdx k):=zcr (zfC hc2 k);have ih:=zst (p:=p) hc2 (show k<cs.length by simpa using hk) (qa7 i hq)
  grind [zaJ,dot,dig,zii]
theorem zDf{cs:List Nat}(hn:us.Nodup)(hl:us.length=cs.length):us.map (stp us cs)=zaJ cs:=by
 refine qbJ (by rw[qak,zhi,hl]) λi h1 h2=>?_
 have hi:i<us.length:=by simpa using h1
 have hp:∀ {xs:List Nat} {i:Nat} (hn:xs.Nodup) (h:i<xs.length),pos xs xs[i]=some i:=by
  intro xs;induction xs<;>grind [pos]
 grind [zlf]
theorem erase_eq{α:Type}(xs:List α)(k:Nat):xs.take k ++ xs.drop (k+1)=xs.eraseIdx k:=(List.eraseIdx_eq_take_drop_succ xs k).symm
theorem zhZ{α β:Type}(g:α->β)(xs:List α)(k:Nat):(xs.eraseIdx k).map g=(xs.map g).eraseIdx k:=by
 rw[<- erase_eq,<- erase_eq,qba,List.map_take,List.map_drop]
theorem znJ(hf:FcOk f)(hp:pos f.vs v=some k):rest f v=f.vs.eraseIdx k:=by
 rw[<- erase_eq,zqY (zbn hf.inc) hp]; rfl
theorem zg8(hf:FcOk f)(hp:pos f.vs v=some k):cof f (rest f v)=f.cs.eraseIdx k:=by
 unfold cof;rw[znJ hf hp,zhZ,zpv (zbn hf.inc) hf.len]
theorem zl9:∀ {cs:List Nat} {k:Nat} (h:k<cs.length),zac cs=cs[k] * zac (cs.eraseIdx k)
 | [],_,h=>by simp at h
 | c :: cs,0,_=>rfl
 | c :: cs,k+1,h=>by
  have hk:k<cs.length:=by simpa using h
  have ih:=zl9 hk
  grind [zac]
def fixF(f:Fc)(v k p:Nat):Fc:=⟨rest f v,f.cs.eraseIdx k,(List.range' 0 (zac (f.cs.eraseIdx k))).map λj=>f.get (zii f.cs k p j)⟩
theorem zz6{f:Fc}(hf:FcOk f){k p:Nat}{q:Int}(hk:k<f.cs.length)(hp:p<f.cs[k]):∀(m i:Nat) (ys:List Nat),i+m=zac (f.cs.eraseIdx k)->ys.length=i ->
  zcB (f.T,0) (k:Int) (p:Int) q (zhT (f.cs.eraseIdx k) ((zaJ f.cs).eraseIdx k) i m) (iL (ys ++ List.replicate m 0))=some (iL (ys ++ (List.range' i m).map λj=>f.get (zii f.cs k p j)))
 | 0,i,ys,_,_=>by simp[zhT,zcB]
 | m+1,i,ys,h,hy=>by
  have hi:i<zac (f.cs.eraseIdx k):=by omega
  have hpf:=hf.prod;have h1:=znf hf.zaF hk hp hi;have h2:=zst (p:=p) hf.zaF hk hi;have hks:k<(zaJ f.cs).length:=by rw[zhi]; exact hk
  rw[zg5];show(zaE (iL (zaJ f.cs)) (k:Int)).bind _=_;rw[ze9 hks,qaa];simp only[];rw[<- qaZ,zaC (by omega),<- qb3,h2,zaC (by omega),show zaE (f.T,(0:Int)).1.factor.w ((zii f.cs k p i:Nat):Int)=some ((f.get (zii f.cs k p i):Nat):Int)from zFG hf h1,qaa];rw[qaX,zdf hy,qaa,zeS hy,qaa,show ys ++ f.get (zii f.cs k p i):: List.replicate m 0=(ys ++ [f.get (zii f.cs k p i)])++ List.replicate m 0 by simp,zz6 hf hk hp m (i+1) _ (by omega) (by simp[hy]),qb5,qaL,qaE,qaN]
theorem zCZ(hf:FcOk f){p:Nat}(hv:pos f.vs v=some k)(hk:k<f.cs.length)(hp:p<f.cs[k]):zcY f.D (v:Int) (p:Int)=some ((fixF f v k p).D,0):=by
 have hl:=hf.le;have hpf:=hf.prod;have hck:=hf.zaF f.cs[k] (qao hk);have e0:=zl9 hk;have hE:zac (f.cs.eraseIdx k)<=zac f.cs:=by rw[e0]; exact qcN _ (by omega)
 obtain⟨h1,h2⟩:=zo2 hf hv;have hn:=zbn hf.inc;have hrl:(rest f v).length<=100:=by
  grind [rest,Go.Dc.FcOk]
 have hel:(f.cs.eraseIdx k).length<=12:=qaq (List.eraseIdx_sublist _ _).length_le hl;unfold zcY;rw[ziF hf,qaa];simp only[]
 rw[show((0:Int)== 0)=true from rfl,qdt,zjq hf,qaa,zd1,hv,show ixZ (some k)=(k:Int)from rfl,show decide ((k:Int)<0)=false from qdw (by omega),qdu,show decide ((p:Int)<0)=false from qdw (by omega),qdu,show f.T.factor.zaf=iL f.cs from rfl,za5 hk,qaa,show decide (((f.cs[k]:Nat):Int)<=(p:Int))=false from qdw (by omega),qaa,qdu,show f.T.factor.vars=iL f.vs from rfl,h1,qaa,h2,qaa,zg4 (by rw[zal]; omega),qaa,zH1 hk (by omega),erase_eq,qaa,qaa,show f.T.factor.w=iL f.ws from rfl,zal,hf.size,zGz (by omega) (by show _<=4611686018427387903; omega),qaa,
  show zac f.cs / f.cs[k]=zac (f.cs.eraseIdx k) by rw[e0,Nat.mul_div_cancel_left _ (by omega)],zdn (by omega),qaa,zqt hf hrl,qaa,zig,qaa]
 simp only[];have es:(rest f v).map (stp f.vs f.cs)=(zaJ f.cs).eraseIdx k:=by rw[znJ hf hv,zhZ,zDf hn hf.len]
 rw[es,zw4 (zfC hf.zaF k) hel (by omega) (by rw[List.length_eraseIdx,List.length_eraseIdx,zhi]) (λs hs=>zng (λc hc=>(hf.zaF c hc).1) hf.prod s (List.mem_of_mem_eraseIdx hs)),qaa];have e2:=zz6 hf (q:=((zac (f.cs.eraseIdx k):Nat):Int)) hk hp (zac (f.cs.eraseIdx k)) 0 [] (by omega) rfl
 grind [zgG,fixF,Go.Dc.Fc.D]
theorem zBy(hf:FcOk f)(hv:pos f.vs v=some k)(hk:k<f.cs.length)(p:Nat):FcOk (fixF f v k p):=by
 have hs:=ziE hf v;have hD:=zhG hf hs;rw[zg8 hf hv]at hD;refine⟨hD.len,hD.le,hD.zaF,hD.prod,by simp[fixF],hs.inc,λu hu=>hf.var u (hs.mem u hu),λw hw=>?_⟩<;> grind [fixF,Fc.zAC]
section
variable {p1 p2 p4:Int} {x9:S_api_Factor}
end
section
variable {p1 p2 p4:Int} {x y:S_api_Factor}
end
theorem zvf(f:Fc):Sel f []:=⟨.nil,λu hu=>by simp at hu⟩
theorem zBJ{f:Fc}{b:Bool}{l:List Nat}(h:gat b f []=some l):l.length=1:=(zka h).trans (by simp[cof,zac])
theorem zBz{f:Fc}(hf:FcOk f):zci f.D=some (match gat false f []with | some l=>(((l.getD 0 0:Nat):Int),0)| none=>(0,6)):=by
 unfold zci;rw[ziF hf,qaa];simp only[];rw[show((0:Int)== 0)=true from rfl,qdt,show([]:List Int)=iL []from rfl,zr9 hf (zvf f),qaa];cases h:gat false f []with
 | none=>rfl
 | some l=>
  have hl:=zBJ h;show(zaE (iL l) ((0:Nat):Int)).bind _=_;rw[ze9 (by omega)];rfl
theorem zES(f:Fc)(i:Nat):ix f [] i=0:=rfl
section
variable {x:S_api_Factor} {p3:Int}
end
section
variable {y4 l1:List Int} {x:S_api_Factor}
end
section
variable {r6 r8:S_api_Factor} {p3:Int} {y4:List Int}
end
def Fc.val(f:Fc)(s:Nat->Nat):Nat:=f.get (dot (f.vs.map s) (zaJ f.cs))
theorem zAD(f:Fc)(u ds:List Nat):f.at u ds=f.val (at_ u ds):=rfl
def Fit(f:Fc)(s:Nat->Nat):Prop:=∀ v∈f.vs,s v<at_ f.vs f.cs v
theorem zkU{s:Nat->Nat}:∀ {us cs:List Nat},us.length=cs.length->us.Nodup->(∀ c∈cs,1<=c/\c<=8)->(∀ v∈us,s v<at_ us cs v)->zc6 cs (us.map s)
 | [],[],_,_,_,_=>trivial
 | [],c :: cs,h,_,_,_=>by simp at h
 | u :: us,[],h,_,_,_=>by simp at h
 | u :: us,c :: cs,hl,hn,hc,h=>by
  obtain⟨h1,h2⟩:=qaR.1 hn;have hu:=h u qaj;rw[zgE,qdx,qdt]at hu;refine⟨hu,(hc c qaj).2,zkU (by simpa using hl) h2 (λd hd=>hc d (qah _ hd)) λv hv=>?_⟩<;> grind [zgE]
variable{f:Fc}{s:Nat->Nat}
theorem Fit.below(hf:FcOk f)(h:Fit f s):zc6 f.cs (f.vs.map s):=zkU hf.len (zbn hf.inc) hf.zaF h
variable{i:Nat}
theorem zuA(hf:FcOk f)(hi:i<zac f.cs):f.val (at_ f.vs (dig f.cs i))=f.get i:=by
 grind [Fc.val,zpv,zbn,zf8,zjk,Go.Dc.FcOk]
theorem val_congr{f:Fc}{t:Nat->Nat}(h:∀ v∈f.vs,s v=t v):f.val s=f.val t:=by
 unfold Fc.val;rw[qaT h]
theorem get_map{n:Nat}{g:Nat->Nat}(h:i<n):((List.range' 0 n).map g).getD i 0=g i:=by
 simp_all
theorem zqx{g:Fc}(hf:FcOk f)(hg:FcOk g)(hc:zcH (iL (ucs f g))=true)(hs:Fit (ztV f g) s):(ztV f g).val s=f.val s * g.val s:=by
 have hD:=zqi hc;have hb:zc6 (ucs f g) ((uni f g).map s):=zkU hD.len hD.nodup hD.zaF hs;have hlt:=zkW hb;show((List.range' 0 (zac (ucs f g))).map λj=>f.at (uni f g) (dig (ucs f g) j)* g.at (uni f g) (dig (ucs f g) j)).getD (dot ((uni f g).map s) (zaJ (ucs f g))) 0=_;rw[get_map hlt,zmO hb,zAD,zAD];rw[val_congr (f:=f) (t:=s) λv hv=>zin ((zeL hf hg).2 (.inl hv)),val_congr (f:=g) (t:=s) λv hv=>zin ((zeL hf hg).2 (.inr hv))]
def big(b:Bool)(xs:List Nat):Nat:=xs.foldr (gop b) 0
theorem zuV(b:Bool)(x y z:Nat):gop b (gop b x y) z=gop b x (gop b y z):=by
 grind [Go.Dc.gop]
theorem zzL(b:Bool)(x y:Nat):gop b x y=gop b y x:=by
 grind [Go.Dc.gop]
theorem zyE(b:Bool)(x:Nat):gop b x 0=x:=by
 cases b
 .rfl
 exact Nat.max_zero x
theorem zzN(b:Bool)(x:Nat):gop b 0 x=x:=by rw[zzL,zyE]
theorem zsw(b:Bool)(x:Nat)(xs:List Nat):big b (x :: xs)=gop b x (big b xs):=rfl
theorem zxy{b:Bool}{M:Nat}:∀ {xs:List Nat},(∀ x∈xs,x<=M)->big b xs<=xs.length * M
 | [],_=>by simp[big]
 | x :: xs,h=>by
  have h1:=h x qaj;have h2:=zxy (b:=b) λy hy=>h y (qah x hy)
  rw[zsw,qaB,qaQ,qa2]
  grind [Go.Dc.gop]
def fib(f:Fc)(us:List Nat)(m i j:Nat):List Nat:=((List.range' i m).filter λi=>ix f us i == j).map f.get
theorem zyd(f:Fc)(us:List Nat)(m i j:Nat):fib f us (m+1) i j=bif ix f us i == j then f.get i :: fib f us m (i+1) j else fib f us m (i+1) j:=by
 grind [fib,qb5]
theorem zlH{b:Bool}{f:Fc}{us:List Nat}{M:Nat}(hM:∀ i,f.get i<=M):∀ {m i K:Nat} {l:List Nat},(∀ j,l.getD j 0<=K)->K+m * M<=zc1->(∀ k,i<=k->k<i+m->ix f us k<l.length)->
  ∃ l',zj9 b f us m i l=some l'/\l'.length=l.length/\∀ j,j<l.length->l'.getD j 0=gop b (l.getD j 0) (big b (fib f us m i j))
 | 0,i,K,l,_,_,_=>⟨l,rfl,rfl,λj _=>by
   grind [fib,big,Go.Dc.gop]⟩
 | m+1,i,K,l,hl,hK,hx=>by
  have hi:=hx i (qap _) (by omega);have h1:=hl (ix f us i);have h2:=hM i;rw[qaQ,qa2]at hK;have h3:gop b (l.getD (ix f us i) 0) (f.get i)<=K+M:=by
   grind [Go.Dc.gop]
  have hset:∀ j,(l.set (ix f us i) (gop b (l.getD (ix f us i) 0) (f.get i))).getD j 0=bif ix f us i == j then gop b (l.getD (ix f us i) 0) (f.get i)else l.getD j 0:=by
   grind
  obtain⟨l',g1,g2,g3⟩:=zlH (b:=b) (us:=us) hM (m:=m) (i:=i+1) (K:=K+M) (l:=l.set (ix f us i) (gop b (l.getD (ix f us i) 0) (f.get i))) (λj=>by
   grind) (by omega) (λk a c=>by rw[qaw]; exact hx k (by omega) (by omega))
  grind [zj9,zyd,zuV,big]
theorem znh(b:Bool)(hf:FcOk f){us:List Nat}(hs:Sel f us){M:Nat}(hM:∀ i,f.get i<=M)(hB:zac f.cs * M<=zc1):
  gat b f us=some ((List.range' 0 (zac (cof f us))).map λj=>big b (fib f us (zac f.cs) 0 j)):=by
 obtain⟨l',g1,g2,g3⟩:=zlH (b:=b) (us:=us) hM (m:=zac f.cs) (i:=0) (K:=0) (l:=List.replicate (zac (cof f us)) 0) (λj=>by
  grind) (by omega) (λk _ hk=>by rw[qcc]; exact zEM hf hs (by omega))
 unfold gat;rw[g1];refine congrArg some (qbJ (by rw[g2]; simp) λj a c=>?_)<;> grind [zzN]
def upd(s:Nat->Nat)(v p:Nat)(u:Nat):Nat:=bif u == v then p else s u
theorem zdB(s:Nat->Nat)(v p:Nat):upd s v p v=p:=by unfold upd; rw[qdx,qdt]
variable{v p:Nat}
theorem zfM{u:Nat}(h:u≠v):upd s v p u=s u:=by unfold upd; rw[qdy h,qdu]
theorem zCc{u:Nat}(h:u∈rest f v):u≠v:=by
 grind [Go.Dc.rest]
variable{k:Nat}
theorem zhQ(hf:FcOk f)(hv:pos f.vs v=some k)(s:Nat->Nat)(p:Nat):(f.vs.map (upd s v p)).eraseIdx k=(rest f v).map s:=by
 rw[<- zhZ,<- znJ hf hv]
 grind [qaT,zCc,upd]
theorem zpP{cs:List Nat}(hc:∀ c∈cs,1<=c/\c<=8)(h:i<zac (cs.eraseIdx k)):dot (dig (cs.eraseIdx k) i) (zaJ (cs.eraseIdx k))=i:=zjk (zfC hc k) h
theorem zq0{cs ds:List Nat}(hc:∀ c∈cs,1<=c/\c<=8)(hk:k<cs.length)(hp:p<cs[k])(hb:zc6 cs ds)(hd:ds.getD k 0=p):zii cs k p (dot (ds.eraseIdx k) (zaJ (cs.eraseIdx k)))=dot ds (zaJ cs)/\dot (ds.eraseIdx k) (zaJ (cs.eraseIdx k))<zac (cs.eraseIdx k):=by
 have hlt:=zkW hb;have hdig:=zmO hb;obtain⟨j,h1,h2⟩:=zsN hc hk hlt (p:=p) (by rw[hdig]; exact hd)
 grind [znq,zpP]
theorem zrH(hv:pos f.vs v=some k)(s:Nat->Nat)(p:Nat):(f.vs.map (upd s v p)).getD k 0=p:=by
 grind [zdC,upd]
theorem zqu(hf:FcOk f)(hv:pos f.vs v=some k)(hk:k<f.cs.length):at_ f.vs f.cs v=f.cs[k]:=by
 simp_all [zsO]
theorem zwN{f:Fc}(hf:FcOk f){v:Nat}(hv:pos f.vs v=some k)(hk:k<f.cs.length)(hp:p<f.cs[k])(hs:∀ u∈rest f v,s u<at_ f.vs f.cs u):Fit f (upd s v p):=by
 grind [zqu,upd,Go.Dc.Fit,Go.Dc.rest]
theorem zqe{f:Fc}(hf:FcOk f){v:Nat}(hv:pos f.vs v=some k)(hk:k<f.cs.length)(hp:p<f.cs[k])(hs:∀ u∈rest f v,s u<at_ f.vs f.cs u):(fixF f v k p).val s=f.val (upd s v p):=by
 have hb:=(zwN hf hv hk hp hs).below hf;obtain⟨h1,h2⟩:=zq0 hf.zaF hk hp hb (zrH hv s p);rw[zhQ hf hv]at h1 h2;show((List.range' 0 (zac (f.cs.eraseIdx k))).map λj=>f.get (zii f.cs k p j)).getD (dot ((rest f v).map s) (zaJ (f.cs.eraseIdx k))) 0=_;rw[get_map h2,h1];rfl
theorem zl6:∀ {cs:List Nat} {k p q i:Nat},(∀ c∈cs,1<=c/\c<=8)->k<cs.length->p<q->zii cs k p i<zii cs k q i
 | [],k,_,_,_,_,hk,_=>by simp at hk
 | c :: cs,0,p,q,i,hc,_,h=>by
  have hp:0<zac cs:=zcr λd hd=>hc d (qah c hd)
  have:=Nat.mul_lt_mul_of_pos_right h hp
  grind [Go.Dc.zii]
 | c :: cs,k+1,p,q,i,hc,hk,h=>by
  have:=zl6 (i:=i % zac (cs.eraseIdx k)) (λd hd=>hc d (qah c hd)) (show k<cs.length by simpa using hk) h
  grind [zii]
theorem zwZ(hf:FcOk f)(hv:pos f.vs v=some k):ix f (rest f v) i=dot ((dig f.cs i).eraseIdx k) (zaJ (f.cs.eraseIdx k)):=by
 unfold ix;rw[zg8 hf hv,znJ hf hv,zhZ,zpv (zbn hf.inc) (by rw[zf8,hf.len])]
theorem zss(hf:FcOk f)(hv:pos f.vs v=some k)(hk:k<f.cs.length){j:Nat}(hj:j<zac (f.cs.eraseIdx k)):fib f (rest f v) (zac f.cs) 0 j=(List.range' 0 f.cs[k]).map λp=>f.get (zii f.cs k p j):=by
 have e:((List.range' 0 (zac f.cs)).filter λi=>ix f (rest f v) i == j)=(List.range' 0 f.cs[k]).map λp=>zii f.cs k p j:=by
  refine zi4 (qaK _ qc9) (List.pairwise_map.2 (List.Pairwise.imp (λh=>zl6 hf.zaF hk h) qc9)) λx=>?_
  simp only[qaA,qcP,qaH,qdz];constructor
  .rintro⟨⟨_,h1⟩,h2⟩;have hx:x<zac f.cs:=by omega
   have hb:=zfA hf.zaF hx;have hp:(dig f.cs x).getD k 0<f.cs[k]:=by
    have hkd:k<(dig f.cs x).length:=by rw[zf8]; exact hk
    have hm:f.vs[k]'(by rw[hf.len]; exact hk)∈f.vs:=qao _;have h3:=(zm2 hf.len hb hm).1
    grind [zr0,zbn,Go.Dc.FcOk]
   refine⟨(dig f.cs x).getD k 0,⟨qau _,by omega⟩,?_⟩;obtain⟨h3,_⟩:=zq0 hf.zaF hk hp hb rfl
   grind [zwZ,zjk,Go.Dc.FcOk]
  rintro⟨p,⟨_,h1⟩,rfl⟩;have hp:p<f.cs[k]:=by omega
  refine⟨⟨qau _,by have:=znf hf.zaF hk hp hj; omega⟩,?_⟩
  grind [zwZ,znq,zpP,Go.Dc.FcOk]
 unfold fib;rw[e,qc3];rfl
theorem zBT(b:Bool){f:Fc}(hf:FcOk f){v:Nat}(hv:pos f.vs v=some k)(hk:k<f.cs.length){l:List Nat}{M:Nat}(hM:∀ i,f.get i<=M)(hB:zac f.cs * M<=zc1)(hg:gat b f (rest f v)=some l)(hs:∀ u∈rest f v,s u<at_ f.vs f.cs u):
  (gF f (rest f v) l).val s=big b ((List.range' 0 f.cs[k]).map λp=>f.val (upd s v p)):=by
 have h0:=znh b hf (ziE hf v) hM hB;rw[hg,zg8 hf hv]at h0;have hl:=qaf h0;have hc0:0<f.cs[k]:=(hf.zaF _ (qao hk)).1;have key:∀ p,p<f.cs[k]->zii f.cs k p (dot ((rest f v).map s) (zaJ (f.cs.eraseIdx k)))=dot (f.vs.map (upd s v p)) (zaJ f.cs)/\dot ((rest f v).map s) (zaJ (f.cs.eraseIdx k))<zac (f.cs.eraseIdx k):=by
  intro p hp;have h:=zq0 hf.zaF hk hp ((zwN hf hv hk hp hs).below hf) (zrH hv s p)
  grind [zhQ]
 have hj:=(key 0 hc0).2;show l.getD (dot ((rest f v).map s) (zaJ (cof f (rest f v)))) 0=_;rw[zg8 hf hv,hl,get_map hj,zss hf hv hk hj];congr 1
 refine qaT λp hp=>?_
 have:=qcP.1 hp;rw[(key p (by omega)).1];rfl
end Go.Dc
namespace Go.Dc
open Go Go.Mx Go.Lx Go.Proofs
def zcN(r1:(S_net_network×Int)):Nat->Int->(List S_api_Factor)->Option (List S_api_Factor)
 | 0,_,_=>none
 | n+1,v23,l2=>(
bif (decide (v23<(((Int.toNat (r1.1.net.nodes.length:Int)):Nat):Int)))then(
(zbU r1.1 v23).bind λr7=>
(zaE l2 v23).bind λx9=>
(zeT l2 v23 r7).bind λy11=>
zcN r1 n (w64 (v23+1)) y11)
else(
some l2))
def zd2(p0:S_api_Net):Option ((List S_api_Factor)×Int):=
(ze1 p0).bind λr1=>
bif (r1.2 == 0)then(
(zd7 72 (r1.1.net.nodes.length:Int) (S_api_Factor.mk [] [] [])).bind λy4=>
((zcN r1 ((((Int.toNat (r1.1.net.nodes.length:Int)):Nat):Int) - 0+2:Int).toNat 0 y4:Option (List S_api_Factor))).bind λl2=>
some (l2,0))
else(
some ([],r1.2))
theorem zlt{p0:S_api_Net}{r:((List S_api_Factor)×Int)}(h:zd2 p0=some r):Lx.Fn mC 75 [(.agg [(dI p0.grain),(fzE false zab p0.nodes)])] (.tup [(fzE true zaa r.1),(dI r.2)]):=by
 refine gnO ?_;unfold zd2 at h;refine zad ?_;obtain⟨r1,g2,h⟩:=bsM h;refine sSM ?_;refine fDM (zkq g2) ?_;refine cBM h (λ_ h=>?_) λ_ h=>?_
 .exact rHM h
 obtain⟨y4,g5,h⟩:=bsM h;try simp only[rnA,Nat.reduceEqDiff,Nat.reduceLT,Nat.reduceAdd,reduceCtorEq,zbN,(zar g5).1.1,(zar g5).1.2,qbI,qcc]
 obtain⟨o1,j1,h⟩:=bsM h;refine usM [6] 3 (λa:(List S_api_Factor)=>([],[(0,.gone),(1,.gone),(2,.els 3 (a.map (zaa.c true)))],[])) λT1 hT1=>?_
 refine EvL.jn T1 (λa=>a=o1/\a.length=(Int.toNat (r1.1.net.nodes.length:Int))) ?_ ?_
 .refine wSM ?_;refine usM [4,6,22] 3 (λa:(Int×(List S_api_Factor))=>([(23,(dI a.1))],[(0,.gone),(2,.els 3 (a.2.map (zaa.c true)))],[])) λT2 hT2=>?_
  refine EvL.rounds (α:=(Int×(List S_api_Factor))) T2 (λn a=>zcN r1 n a.1 a.2=some o1/\a.2.length=(Int.toNat (r1.1.net.nodes.length:Int))) ((((Int.toNat (r1.1.net.nodes.length:Int)):Nat):Int) - 0+2:Int).toNat (0,y4) (by rw[hT2]; exact wm0 [.d,.k,.k] ⟨rfl,⟨MB.cs ⟨qds,qds,qds,qds,qds,qds⟩,⟨MB.zHj (zCF (e:=zaa) (t:=true) g5 (.cons (.fr (zjm (eI .i64))) (.cons (.fr (zjm (eI .i64))) (.cons (.fr (zjm (eI .i64))) .nil)))),qds⟩⟩⟩) ⟨j1,zbh g5⟩ (λ_ h=>nomatch (show(none:Option (List S_api_Factor))=some o1 from h.1)) ?_;rintro n ⟨v23,l2⟩ ⟨j1,el2⟩;simp only[zcN]at j1;refine wTM hT2 ?_;refine cBM j1 (λ_ j1=>?_) λ_ j1=>?_
  .obtain rfl:=qaf j1;exact zcz hT1 _ ⟨rfl,el2⟩
  obtain⟨r7,g8,j1⟩:=bsM j1;refine sSM ?_;refine fCM (zgW g8) ?_;obtain⟨x9,g10,y11,g12,j1⟩:=zgs j1;refine zHX @zc5 el2 (za2 g10) (ltM el2 g10) (zcn g10 (zaa.c true)) (show(l2.map (zaa.c true)).set v23.toNat [(fzE true (eI .i64) r7.vars),(fzE true (eI .i64) r7.zaf),(fzE true (eI .i64) r7.w)]=y11.map (zaa.c true)from zd6 g12 (zaa.c true)) ?_;exact zcz hT2 ((w64 (v23+1)),y11) ⟨j1,(zaS g12).trans el2⟩
 rintro l2 ⟨rfl,el2⟩;refine wTM hT1 ?_;exact rHM h
end Go.Dc
namespace Go.Dc
open Go Go.Mx Go.Lx
structure Std (f:Fc) (M:Nat):Prop where
 ok:FcOk f
 cs:f.cs=f.vs.map zlr
 var:∀ v∈f.vs,v<5
 le:∀ i,f.get i<=M
theorem zzx:∀ v,v<5->1<=zlr v/\zlr v<=8:=by decide
theorem zyv:[0,1,2,3,4].Pairwise (· < ·):=by decide
variable{v:Nat}
theorem zyH(h:v<5):v∈[0,1,2,3,4]:=by
 have:∀ v,v<5->v∈[0,1,2,3,4]:=by decide
 exact this v h
theorem zwh{vs:List Nat}(hi:vs.Pairwise (· < ·))(hv:∀ v∈vs,v<5):zac (vs.map zlr)<=24/\vs.length<=5:=by
 have hs:=zk2 hi zyv λv h=>zyH (hv v h)
 refine⟨?_,hs.length_le⟩;have:=zjS (hs.map zlr) (by decide);exact this
theorem zvh{vs:List Nat}(hv:∀ v∈vs,v<5):∀ c∈vs.map zlr,1<=c/\c<=8:=by
 intro c hc;obtain⟨v,h,rfl⟩:=qaH.1 hc;exact zzx v (hv v h)
theorem ztr{vs:List Nat}(hi:vs.Pairwise (· < ·))(hv:∀ v∈vs,v<5):zcH (iL (vs.map zlr))=true:=by
 obtain⟨h1,h2⟩:=zwh hi hv;unfold zcH;rw[zal,qak,qdv (by omega),qbF];exact zhR (zvh hv) (by omega)
variable{f:Fc}{M:Nat}
theorem Std.at(h:Std f M)(hv:v∈f.vs):at_ f.vs f.cs v=zlr v:=by rw[h.cs,zin hv]
variable{N:Nat}
theorem Std.mono(h:Std f M)(hl:M<=N):Std f N:=⟨h.ok,h.cs,h.var,λi=>qaq (h.le i) hl⟩
theorem Std.agr{g:Fc}(hf:Std f M)(hg:Std g N):Agr f g:=λv h1 h2=>by rw[hf.at h1,hg.at h2]
theorem Std.zaF(h:Std f M){k:Nat}(hv:pos f.vs v=some k)(hk:k<f.cs.length):f.cs[k]=zlr v:=by
 obtain⟨h1,e⟩:=zdC hv;rw[<- zqu h.ok hv hk,h.at (e ▸ qao h1)]
theorem Std.ucs{g:Fc}(hf:Std f M)(hg:Std g N):ucs f g=(uni f g).map zlr:=by
 refine qaT λv hv=>?_
 rcases(zeL hf.ok hg.ok).1 hv with h | h
 .rw[zG3 h,hf.at h]
 rw[zHm (hf.agr hg) h,hg.at h]
theorem Std.uv{f g:Fc}(hf:Std f M)(hg:Std g N):∀ v∈uni f g,v<5:=λv hv=>((zeL hf.ok hg.ok).1 hv).elim (hf.var v) (hg.var v)
theorem Std.zaf{g:Fc}(hf:Std f M)(hg:Std g N):zcH (iL (Go.Dc.ucs f g))=true:=by
 rw[hf.ucs hg];exact ztr (zi7 f g) (hf.uv hg)
theorem zg6{l:List Nat}(h:∀ x∈l,x<=M)(k:Nat):l.getD k 0<=M:=by
 by_cases hk:k<l.length
 .rw[qag,qac hk];exact h _ (qao hk)
 rw[qag,qbx (by omega)];exact qau _
end Go.Dc
namespace Go.Dc
open Go Go.Mx Go.Lx Go.Proofs
def zaU(p0:(List S_api_Factor)):Nat->Int->(List Int)->(List Int)->(List Int)->Option ((List Int)×(List Int)×(List Int))
 | 0,_,_,_,_=>none
 | n+1,v9,b1_0,b1_1,b1_2=>(
bif (decide (v9<(p0.length:Int)))then(
(zaE p0 v9).bind λx4=>
(zc3 (S_api_Factor.mk b1_0 b1_1 b1_2) x4).bind λr6=>
zaU p0 n (w64 (v9+1)) r6.1.vars r6.1.zaf r6.1.w)
else(
some (b1_0,b1_1,b1_2)))
def zbj(p0:(List S_api_Factor)):Option S_api_Factor:=
(zdN).bind λr1=>
((zaU p0 ((p0.length:Int) - 0+2:Int).toNat 0 r1.vars r1.zaf r1.w:Option (((List Int)×(List Int)×(List Int))))).bind λo=>match o with
|(b1_0,b1_1,b1_2)=>(
some (S_api_Factor.mk b1_0 b1_1 b1_2))
theorem zeG{p0:(List S_api_Factor)}{r:S_api_Factor}(h:zbj p0=some r):Lx.Fn mC 81 [(fzE false zaa p0)] (.agg [(fzE true (eI .i64) r.vars),(fzE true (eI .i64) r.zaf),(fzE true (eI .i64) r.w)]):=by
 refine gnO ?_;unfold zbj at h;refine zad ?_;obtain⟨r1,g2,h⟩:=bsM h;refine sSM ?_;refine fCM (ziy g2) ?_;obtain⟨o1,j1,h⟩:=bsM h;refine usM [2,3] 2 (λa:((List Int)×(List Int)×(List Int))=>([],[(1,.cells [(fzE true (eI .i64) a.1),(fzE true (eI .i64) a.2.1),(fzE true (eI .i64) a.2.2)])],[])) λT1 hT1=>?_
 refine EvL.jn T1 (λa=>a=o1) ?_ ?_
 .refine wSM ?_;refine usM [2,3,7,8] 2 (λa:(Int×(List Int)×(List Int)×(List Int))=>([(9,(dI a.1))],[(1,.cells [(fzE true (eI .i64) a.2.1),(fzE true (eI .i64) a.2.2.1),(fzE true (eI .i64) a.2.2.2)])],[])) λT2 hT2=>?_
  refine rdM hT2 (λn a=>zaU p0 n a.1 a.2.1 a.2.2.1 a.2.2.2=some o1) (0,r1.vars,r1.zaf,r1.w) j1 ?_;rintro n ⟨v9,b1_0,b1_1,b1_2⟩ j1;simp only[zaU]at j1;refine wTM hT2 ?_;refine cBM j1 (λ_ j1=>?_) λ_ j1=>?_
  .exact zde j1 hT1
  obtain⟨x4,g5,r6,g7,j1⟩:=zgs j1;refine sXM (anM @zc5 (zaz (n:=3) (e:=zaa) rfl g5)) ?_;refine fCM (znX g7) ?_;exact zcz hT2 ((w64 (v9+1)),r6.1.vars,r6.1.zaf,r6.1.w) j1
 rintro⟨b1_0,b1_1,b1_2⟩ rfl;dsimp only at h;refine wTM hT1 ?_;exact rHM h
structure StR where
 count:Int
 product:S_api_Factor
abbrev StI:Type:=StR×List S_api_Factor
def zfI(q:S_eliminate_query):List S_api_Factor->List Int->Option (List StI)
 | l,[]=>(zbj l).bind λp=>some [(⟨(l.length:Int),p⟩,l)]
 | l,x :: xs=>(zaE q.known x).bind λkx=>bif decide (0<=kx)then zfI q l xs else(zcX l x).bind λr=>bif (r.1.length:Int)== 0 then zfI q l xs else
   (zbj r.1).bind λp=>(zb5 p x).bind λy=>(zdE 72 r.2 [y.1]).bind λl'=>(zfI q l' xs).bind λu=>some ((⟨(r.1.length:Int),p⟩,l):: u)
def zoJ(q:S_eliminate_query)(l:List S_api_Factor)(order:List Int):Option (List StI):=(zfm order).bind λ_=>zfI q l order
def stG(l:List S_api_Factor)(u:List StI)(i:Nat):LB:=.cells [fzE false zaa (match u[i]? with | some y=>y.2 | none=>l)]
theorem zvj(l:List S_api_Factor)(u:List StI)(i:Nat)(kp:Nat->Bool):LB.kin kp (stG l u i):=⟨qds,qds⟩
theorem zAO(l:List S_api_Factor)(u:List StI)(i n:Nat):LB.sc n (stG l u i):=⟨qds,qds⟩
theorem zhF{q:S_eliminate_query}:∀ {xs:List Int} {l:List S_api_Factor} {u:List StI},zfI q l xs=some u->∃ y u',u=y :: u'/\y.2=l
 | [],l,u,h=>by
  obtain⟨p,_,h⟩:=bsM h;cases h;exact⟨_,[],rfl,rfl⟩
 | x :: xs,l,u,h=>by
  unfold zfI at h;obtain⟨kx,_,h⟩:=bsM h;cases h1:decide (0<=kx)with
  | true=>rw[h1,qdt]at h; exact zhF h
  | false=>
  rw[h1,qdu]at h;obtain⟨r,_,h⟩:=bsM h;cases h2:((r.1.length:Int)== 0)with
  | true=>rw[h2,qdt]at h; exact zhF h
  | false=>
  rw[h2,qdu]at h;obtain⟨p,_,y,_,l',_,h⟩:=zjp h;obtain⟨u',_,h⟩:=bsM h;cases h;exact⟨_,u',rfl,rfl⟩
variable{xs:List Int}{l:List S_api_Factor}{u:List StI}
theorem zsX{q:S_eliminate_query}(h:zfI q l xs=some u):stG l u 0=.cells [fzE false zaa l]:=by
 obtain⟨y,u',rfl,e⟩:=zhF h;show LB.cells [fzE false zaa y.2]=_;rw[e]
theorem zvU{q:S_eliminate_query}(h:zoJ q l xs=some u):stG l u 0=.cells [fzE false zaa l]:=by
 obtain⟨_,_,h⟩:=bsM h;exact zsX h
def stY(y:StI)(n0:Nat)(args:List D)(G:List LB):Prop:=
 args=[.agg [dI y.1.count,fzE true (eI .i64) y.1.product.vars,fzE true (eI .i64) y.1.product.zaf,fzE true (eI .i64) y.1.product.w]]/\∃ gB,(∀ kp,LB.kin kp gB)/\G=[.gone,gB]
def zDO:C:=.reg false false [⟨some 16,.idxS 1 (.s 12) (.s 14),none⟩,
 ⟨some 17,.load none (.s 16),none⟩,
 ⟨some 6,.alloc [(.int .i64 0)],none⟩,
 ⟨none,.store 1 (.s 6) (.s 17),none⟩]
def zE5:C:=.seq (.reg false false [⟨some 18,.fld 2 (.s 2),none⟩,
 ⟨some 19,.load none (.s 18),none⟩,
 ⟨some 20,.load none (.s 6),none⟩,
 ⟨some 21,.idxS 1 (.s 19) (.s 20),none⟩,
 ⟨some 22,.load none (.s 21),none⟩,
 ⟨some 23,.bin .geq (.s 22) (.c (.int .i64 0)),none⟩])
 (.cond (.s 23) (.exit 1)
 (.skip))
def zF4:C:=.reg false false [⟨some 25,.load none (.s 3),none⟩,
 ⟨some 26,.clo 80 [] [(.s 6)],none⟩,
 ⟨some 27,.call 79 [(.s 25),(.s 26)],none⟩,
 ⟨some 24,.mov (.s 27),none⟩,
 ⟨some 28,.ext (.s 24) 0,none⟩,
 ⟨some 29,.ext (.s 24) 1,none⟩,
 ⟨some 7,.mov (.s 28),none⟩,
 ⟨some 8,.mov (.s 29),none⟩]
def zDQ:C:=.seq (.reg false false [⟨some 30,.mov (.s 7),none⟩,
 ⟨some 31,.len (.s 30),none⟩,
 ⟨some 32,.bin .eql (.s 31) (.c (.int .i64 0)),none⟩])
 (.cond (.s 32) (.exit 1)
 (.skip))
def zEt:C:=.reg false false [⟨some 33,.mov (.s 7),none⟩,
 ⟨some 34,.call 81 [(.s 33)],none⟩,
 ⟨some 9,.alloc [(.slice none 0 0),(.slice none 0 0),(.slice none 0 0)],none⟩,
 ⟨none,.store 3 (.s 9) (.s 34),none⟩]
def zF1:C:=.seq (.reg false false [⟨some 35,.mov (.s 0),none⟩,
 ⟨some 36,.mov (.s 7),none⟩,
 ⟨some 37,.len (.s 36),none⟩,
 ⟨some 38,.load (some 3) (.s 9),none⟩,
 ⟨some 39,.build [(.int .i64 0),(.slice none 0 0),(.slice none 0 0),(.slice none 0 0)] [(0,1,(.s 37)),(1,3,(.s 38))],none⟩,
 ⟨some 40,.zd8 (.s 35) [(.s 39)],none⟩,
 ⟨some 41,.un .not (.s 40),none⟩])
 (.cond (.s 41) (.ret)
 (.skip))
def zEX:C:=.reg false false [⟨some 43,.load (some 3) (.s 9),none⟩,
 ⟨some 44,.load none (.s 6),none⟩,
 ⟨some 45,.call 82 [(.s 43),(.s 44)],none⟩,
 ⟨some 42,.mov (.s 45),none⟩,
 ⟨some 46,.ext (.s 42) 0,none⟩,
 ⟨some 47,.ext (.s 42) 1,none⟩,
 ⟨some 10,.alloc [(.slice none 0 0),(.slice none 0 0),(.slice none 0 0)],none⟩,
 ⟨none,.store 3 (.s 10) (.s 46),none⟩,
 ⟨some 11,.mov (.s 47),none⟩]
def zFe:C:=.reg false false [⟨some 48,.mov (.s 8),none⟩,
 ⟨some 49,.load (some 3) (.s 10),none⟩,
 ⟨some 50,.bsl 3 1 [(.slice none 0 0),(.slice none 0 0),(.slice none 0 0)] [(0,(.s 49))],none⟩,
 ⟨some 51,.app 3 72 (.s 48) (.s 50),none⟩,
 ⟨none,.store 1 (.s 3) (.s 51),none⟩]
def zF0:C:=.seq zDO (.seq zE5 (.seq zF4 (.seq zDQ (.seq zEt (.seq zF1 (.seq zEX zFe))))))
def zvz:C:=.seq (.reg false false [⟨some 15,.bin .lss (.s 14) (.s 13),none⟩]) (.seq (.cond (.s 15) (.skip)
 (.exit 0)) (.seq (.scope (.block 1 zF0)) (.reg false false [⟨some 52,.bin .add (.s 14) (.c (.int .i64 1)),none⟩,
 ⟨some 14,.mov (.s 52),none⟩])))
def zAp:C:=.reg true false [⟨some 53,.mov (.s 0),none⟩,
 ⟨some 54,.load none (.s 3),none⟩,
 ⟨some 55,.len (.s 54),none⟩,
 ⟨some 56,.load none (.s 3),none⟩,
 ⟨some 57,.call 81 [(.s 56)],none⟩,
 ⟨some 58,.build [(.int .i64 0),(.slice none 0 0),(.slice none 0 0),(.slice none 0 0)] [(0,1,(.s 55)),(1,3,(.s 57))],none⟩,
 ⟨some 59,.zd8 (.s 53) [(.s 58)],none⟩]
def zHU:C:=.seq (.seq (.reg false false [⟨some 12,.load none (.s 1),none⟩,
 ⟨some 13,.len (.s 12),none⟩,
 ⟨some 14,.mov (.c (.int .i64 0)),none⟩]) (.scope (.block 0 (.loop zvz)))) zAp
theorem zFt:zt6 mC 78=some (60,zHU,[],false):=zgQ (by kernel_rfl)
theorem drop_cons{α:Type}{u r:List α}{j:Nat}{y:α}(h:u.drop j=y :: r):u[j]? = some y/\u.drop (j+1)=r:=by
 have hj:j<u.length:=by
  refine Nat.lt_of_not_le λhn=>?_
  rw[qbn hn]at h;cases h
 rw[qay hj]at h;exact⟨by rw[qac hj,(qcI h).1],(qcI h).2⟩
variable{N:Nat}
theorem zbi.zG6{k0 n:Nat}{E E':List (Nat×D)}{L L1 X:List LB}(ws:List Lx.Act)(hn:L.length=n)(hk:k0<=n)(hl:L1.length=n)(hb:∀(j:Nat) b b',L[j]? = some b->L1[j]? = some b'->MB (L ++ X) (isF (zeH n ws)) (isK (zeH n ws)) b b')(hY:zjE ws 0=true)(hE:MEs (L ++ X) (zeH n ws) E E'):zbi k0 ⟨N,E,L ++ X⟩ ⟨N,E',L1⟩:=by
 have hX:MBx (L ++ X) (isF (zeH n ws)) (isK (zeH n ws)) ws X []:=by cases ws<;>cases X<;>trivial
 have h:=zbi.zBG (N:=N) ws hn hk hl hb hX hY hE
 rwa [qaP]at h
theorem zuL{q:S_eliminate_query}{l0:List S_api_Factor}{order:List Int}(hu0:zoJ q l0 order=some u)(κ:Nat):
  zHx mC 78 [] [.fptr false ((eL (eI .i64)).c false order),.fptr false (zaq.c false q),.ptr κ 0] u stY κ (stG l0 u):=by
 intro n0 β P Ps hβ hκ hne hlen hset hround L hP;obtain⟨_,hsm,hu⟩:=bsM hu0;refine zdD.ofM zFt (zeD rfl) (qad rfl) ?_;rw[zsX hu]at hP;have hL:=(hlen _ _ _ hP).1;unfold zHU;refine wSM ?_;refine EvL.scope (zad ?_);refine sSM ?_;rw[hL];refine EvL.loop (α:=Nat×Nat×List S_api_Factor×List LB) (λa=>⟨60,[(0,.yld β),(2,.fptr false (zaq.c false q)),(3,.ptr κ 0),(12,fzE false (eI .i64) order),(13,dI (order.length:Int)),(14,dI (a.1:Int))],a.2.2.2⟩)
  (λa=>P a.2.1 (.cells [fzE false zaa a.2.2.1]) a.2.2.2/\zfI q a.2.2.1 (order.drop a.1)=some (u.drop a.2.1)/\a.1<=order.length) (λa=>order.length - a.1) (0,0,l0,L) (by refine zbi.sub ?_; exact⟨rfl,rfl,rfl,rfl,rfl,rfl,qds⟩) ⟨hP,hu,qau _⟩ ?_
 rintro⟨i,j,l,L1⟩ ⟨hp,hs,hi⟩;simp only at hp hs hi;obtain⟨hl,hk1,hsc0⟩:=hlen _ _ _ hp;have hsc:zdo n0 L1:=hsc0 λn=>⟨qds,qds⟩
 have hsm':=zhJ hsm;unfold zvz;refine zad ?_;rcases qa0 i order.length with hlt | hge
 .have hlt':(i:Int)<(order.length:Int):=by omega
  have hx:zaE order (i:Int)=some order[i]:=by unfold zaE; rw[if_pos (by omega),qax,qac hlt]
  rw[qay hlt]at hs;generalize order[i]=x at hx hs;unfold zfI at hs;obtain⟨kx,hk,hs⟩:=bsM hs;refine sXM hlt' ?_;refine EvL.jn (λa:Nat×List S_api_Factor×List LB=>⟨60,[(0,.yld β),(2,.fptr false (zaq.c false q)),(3,.ptr κ 0),(12,fzE false (eI .i64) order),(13,dI (order.length:Int)),(14,dI (i:Int))],a.2.2⟩)
   (λa=>P a.1 (.cells [fzE false zaa a.2.1]) a.2.2/\zfI q a.2.1 (order.drop (i+1))=some (u.drop a.1)) ?_ ?_
  .unfold zF0 zDO zE5 zF4 zDQ zEt zF1 zEX zFe;refine zad ?_;have hg0:=znc hl;have hs0:=zrY hl;cases hc:decide (0<=kx)with
   | true=>
    rw[hc,qdt]at hs;refine sXM (anM (zaz (n:=1) (e:=eI .i64) rfl hx) (anM @zbD (anM hl (anM hg0 (anM hs0 (anM (zaz (n:=1) (e:=eI .i64) rfl hk) hc)))))) ?_;exact⟨(j,l,L1),⟨hp,hs⟩,zbi.cut (L:=L1) (qdr hl.symm) ⟨⟨rfl,by rw[hl]; exact hβ⟩,⟨rfl,qds⟩,⟨rfl,by rw[hl]; exact hκ⟩,⟨rfl,qds⟩,⟨rfl,qds⟩,⟨rfl,qds⟩,qds⟩ (by rw[hl]; exact hsc)⟩
   | false=>
   rw[hc,qdu]at hs;obtain⟨r,hr,hs⟩:=bsM hs;refine sXM (anM (zaz (n:=1) (e:=eI .i64) rfl hx) (anM @zbD (anM hl (anM hg0 (anM hs0 (anM (zaz (n:=1) (e:=eI .i64) rfl hk) (anM hc (anM (zse hl hκ) hk1)))))))) ?_;refine EvL.zgB (S':=⟨60,[(0,.yld β),(2,.fptr false (zaq.c false q)),(3,.ptr κ 0),(12,fzE false (eI .i64) order),(13,dI (order.length:Int)),(14,dI (i:Int)),(6,.fptr false ((eI .i64).c false x)),(25,fzE false zaa l),(26,.clo 80 [] [.fptr false ((eI .i64).c false x)])],L1 ++ []⟩)
    (zbi.zBG (X:=[.cells ((eI .i64).c false x)]) (Y:=[]) [.f] hl (qap _) hl (zmU hsc) trivial rfl ?_) ?_
   .exact(ms rfl (zfX hβ) (msq (ms rfl (zfX hκ) (msq (msq (ms rfl qds
     (mf rfl (zkP (t:=false) (eI .i64) x (zwO rfl) (hg0 _) (λh=>h)) (msq (mx rfl (Mo.clo rfl rfl (Mos.get .nil) (Mos.get (.cons (.fr (zkP (t:=false) (eI .i64) x (zwO rfl) (hg0 _) (λh=>h))) .nil))) trivial)))))))))
   refine wSM ?_;refine EvL.fnT (r:=.tup [.sl n0 0 3 r.1.length none r.1.length,.sl (n0+1) 0 3 r.2.length none r.2.length]) (L':=L1 ++ [.grow 3 (r.1.map (zaa.c false)),.grow 3 (r.2.map (zaa.c false))]) (zjD hr) rfl rfl
    (.cons (zdw _ _ (λh=>by cases h<;>contradiction)) (.cons (.clo rfl rfl (Mzs.get .nil) (Mzs.get (.cons (.fptr (λh=>by cases h<;>contradiction) rfl (Mzs.get (.cons (.lit _) .nil))) .nil))) .nil))
    ⟨zb0 _ _,⟨qds,⟨rfl,qds,qds⟩,qds⟩,qds⟩ ⟨qds,qds,qds⟩ ⟨zwA zaa (λx=>zaa.fr x) _,zwA zaa (λx=>zaa.fr x) _,qds⟩ (by rw[qaP,hl]; rfl) (by rw[qaP]) ?_
   cases hc2:((r.1.length:Int)== 0)with
   | true=>
    rw[hc2,qdt]at hs;refine sXM (anM hc2 hg0) ?_;exact⟨(j,l,L1),⟨hp,hs⟩,zbi.cut (L:=L1) (qdr hl.symm) ⟨⟨rfl,by rw[hl]; exact hβ⟩,⟨rfl,qds⟩,⟨rfl,by rw[hl]; exact hκ⟩,⟨rfl,qds⟩,⟨rfl,qds⟩,⟨rfl,qds⟩,qds⟩ (by rw[hl]; exact hsc)⟩
   | false=>
   rw[hc2,qdu]at hs;obtain⟨p,hpm,y,hy,l',hl',hs⟩:=zjp hs;obtain⟨u',hu',hs⟩:=bsM hs;obtain⟨hj1,hj2⟩:=drop_cons (qaf hs).symm;refine sXM (anM hc2 hg0) ?_;refine EvL.fn (zeG hpm) rfl rfl (.cons (znB (e:=zaa) (t:=false) rfl (.inr (by rw[znc hl]; rfl)) rfl rfl (λk h=>nomatch h) (λh=>h)) .nil) ?_;simp only[rnA,Nat.reduceEqDiff,Nat.reduceLT,Nat.reduceAdd,Nat.reduceLeDiff,reduceCtorEq,qaz,hl,hg0,zko hl,zrd hl,qaE];refine EvL.zgB (S':=⟨60,[(0,.yld β),(2,.fptr false (zaq.c false q)),(3,.ptr κ 0),(12,fzE false (eI .i64) order),(13,dI (order.length:Int)),(14,dI (i:Int)),(6,.fptr false ((eI .i64).c false x)),(8,.sl (n0+1) 0 3 r.2.length none r.2.length),(9,.fptr true (zaa.c true p)),(35,.yld β),(39,.agg [dI (r.1.length:Int),fzE true (eI .i64) p.vars,fzE true (eI .i64) p.zaf,fzE true (eI .i64) p.w])],L1 ++ [.gone,.grow 3 (r.2.map (zaa.c false))]⟩)
    (zbi.zBG (X:=[.grow 3 (r.1.map (zaa.c false)),.grow 3 (r.2.map (zaa.c false)),.cells (zaa.c true p)]) (Y:=[.gone,.grow 3 (r.2.map (zaa.c false))]) [.d,.k,.f] hl (qap _) hl (zmU hsc) ⟨rfl,MB.gs zaa false _,qds⟩ rfl ?_) ?_
   .exact(ms rfl (zfX hβ) (msq (ms rfl (zfX hκ) (msq (msq (msq (msq (ms rfl (zFa (j:=1) rfl)
     (mf rfl (zkP (t:=true) zaa p (zxv (j:=2) rfl) (by rw[zko hl]; rfl) (λh=>h)) (ms rfl (zfX hβ) (ms rfl ⟨qds,qds,qds,qds,qds⟩ trivial)))))))))))
   refine EvL.yield rfl rfl rfl (hround j _ L1 _ [.gone,.grow 3 (r.2.map (zaa.c false))] hj1 (by unfold stG; rw[hj1]; exact hp) ⟨rfl,.grow 3 (r.2.map (zaa.c false)),λkp=>zeM zaa kp false r.2,rfl⟩) ?_;rintro b L' ⟨Lz,rfl,hl3,hb⟩;cases b with
   | false=>
    refine sSM ?_;exact⟨[],rfl,Lz,_,rfl,hl3,.inr hb⟩
   | true=>
   simp only[show stG l0 u j=.cells [fzE false zaa l]from by unfold stG; rw[hj1]]at hb;obtain⟨_,hk3,hsc30⟩:=hlen _ _ _ hb;have hsc3:zdo n0 Lz:=hsc30 λn=>⟨qds,qds⟩
   refine sXM @zc5 ?_;refine fDM (zjC hy) ?_;have hsl3:=zyM (x:=.cells [.sl (n0+1) 0 3 l'.length none l'.length]) hl3 hκ;simp only[rnA,Nat.reduceEqDiff,Nat.reduceLT,Nat.reduceAdd,Nat.reduceLeDiff,reduceCtorEq,qaz,hl3,zko hl3,zrd hl3,zse hl3 hκ,hk3,qaE,zb9 hl',(show r.2.length+1=l'.length from zfB hl'),(show r.2.map (zaa.c false)++ [[fzE false (eI .i64) y.1.vars,fzE false (eI .i64) y.1.zaf,fzE false (eI .i64) y.1.w]]=l'.map (zaa.c false)from zdW hl' (zaa.c false)),hsl3];refine⟨(j+1,l',Lz.set κ (.cells [fzE false zaa l'])),⟨hset _ _ _ _ hb,by rw[hj2]; exact hu'⟩,?_⟩;have hls:∀ z,(Lz.set κ z).length=n0:=λz=>by rw[qaw]; exact hl3
   refine zbi.zG6 (n:=n0) (X:=[.gone,.grow 3 (l'.map (zaa.c false)),.cells [fzE false (eI .i64) y.1.vars,fzE false (eI .i64) y.1.zaf,fzE false (eI .i64) y.1.w],.els 3 [[fzE false (eI .i64) y.1.vars,fzE false (eI .i64) y.1.zaf,fzE false (eI .i64) y.1.w]]]) [.d,.f,.d,.d] (hls _) (qap _) (hls _)
    (zCh (g:=.cells [.sl (n0+1) 0 3 l'.length none l'.length]) (g':=.cells [fzE false zaa l']) hsc3 (MB.cells rfl (Mos.get (.cons (.fr (zkX (s:=false) (t':=false) (cap:=none) (β:=n0+1) (n:=3) (st:=l'.length) (len:=l'.length) (e:=zaa) (t:=false) (zxv (j:=1) rfl) rfl (.inr (zko (hls _) _ 1)) rfl rfl (λk h=>nomatch h) (λh=>by cases h<;>contradiction))) .nil)))) rfl ?_
   exact(ms rfl (zfX hβ) (msq (ms rfl (zfX hκ) (msq (msq (msq trivial))))))
  rintro⟨j,l,L1⟩ ⟨hp,hs⟩;refine wSM ?_;have hw:IntKind.i64.wrap ((i:Int)+1)=((i+1:Nat):Int):=by rw[wrap64 (by omega) (by omega)]; omega
  exact⟨(i+1,j,l,L1),⟨hp,hs,hlt⟩,by show order.length - (i+1)<order.length - i; omega,by
   rw[hw]
   exact zbi.sub ⟨rfl,rfl,rfl,rfl,rfl,rfl,qds⟩⟩
 have hge':decide ((i:Int)<(order.length:Int))=false:=qdw (by omega);rw[qbn hge]at hs;unfold zfI at hs;obtain⟨p,hpm,hs⟩:=bsM hs;obtain⟨hj1,hj2⟩:=drop_cons (qaf hs).symm;have hjl:u.length=j+1:=by
  have h1:=(qab.1 hj1).1;have h2:=congrArg List.length hj2;rw[qct]at h2;simp only[qa8]at h2;omega
 unfold zAp;refine sXM (anM hge' hk1) ?_;refine fCM (zeG hpm) ?_;refine EvL.zgB (zbi.pad (X:=[.gone,.gone]) (λb hb=>by simpa using hb)) ?_;refine EvL.yield rfl rfl rfl (hround j _ L1 _ [.gone,.gone] hj1 (by unfold stG; rw[hj1]; exact hp) ⟨rfl,.gone,λkp=>trivial,rfl⟩) ?_;rintro b L' ⟨Lz,rfl,hl3,hb⟩;refine sSM ?_;cases b with
 | false=>exact⟨[],rfl,Lz,_,rfl,hl3,.inr hb⟩
 | true=>exact⟨[],rfl,Lz,_,rfl,hl3,.inl ⟨j,by rw[hjl]; exact hb⟩⟩
def zaw(p0:S_eliminate_query):Nat->Int->(List Int)->(List Int)->(List Int)->Option (Out ((List Int)×(List Int)×(List Int)) ((List S_api_Factor)×Int))
 | 0,_,_,_,_=>none
 | n+1,v37,b2_0,b2_1,b2_2=>(
bif (decide (v37<(p0.known.length:Int)))then(
(((zaE p0.known v37).bind λx11=>
((bif (decide (x11<0))then(
some true)
else(
(zb8 (S_api_Factor.mk b2_0 b2_1 b2_2) v37).bind λr14=>
some (!r14)):Option Bool)).bind λv49=>
bif v49 then(
some (.go (b2_0,b2_1,b2_2)))
else(
(zcY (S_api_Factor.mk b2_0 b2_1 b2_2) v37 x11).bind λr17=>
bif (r17.2 == 0)then(
some (.go (r17.1.vars,r17.1.zaf,r17.1.w)))
else(
some (.ret ([],r17.2)))):Option (Out ((List Int)×(List Int)×(List Int)) ((List S_api_Factor)×Int)))).bind λo=>match o with
| .go (b2_0',b2_1',b2_2')=>(
zaw p0 n (w64 (v37+1)) b2_0' b2_1' b2_2')
| .ret r=>some (.ret r))
else(
some (.go (b2_0,b2_1,b2_2))))
def zaI(r1:((List S_api_Factor)×Int))(p1:Int)(p0:S_eliminate_query):Nat->Int->(List S_api_Factor)->Option (Out (List S_api_Factor) ((List S_api_Factor)×Int))
 | 0,_,_=>none
 | n+1,v24,l1=>(
bif (decide (v24<(r1.1.length:Int)))then(
(((zaE r1.1 v24).bind λx5=>
(ziN .u64 p1 v24).bind λq7=>
bif ((ziv .u64 q7 1)== 0)then(
some (.go l1))
else(
((zaw p0 ((p0.known.length:Int) - 0+2:Int).toNat 0 x5.vars x5.zaf x5.w:Option (Out ((List Int)×(List Int)×(List Int)) ((List S_api_Factor)×Int)))).bind λo=>match o with
| .go (b2_0,b2_1,b2_2)=>(
(zdE 72 l1 [(S_api_Factor.mk b2_0 b2_1 b2_2)]).bind λy20=>
some (.go y20))
| .ret r=>some (.ret r)):Option (Out (List S_api_Factor) ((List S_api_Factor)×Int)))).bind λo=>match o with
| .go l1'=>(
zaI r1 p1 p0 n (w64 (v24+1)) l1')
| .ret r=>some (.ret r))
else(
some (.go l1)))
def zbo(p0:S_eliminate_query)(p1:Int):Option ((List S_api_Factor)×Int):=
(zd2 p0.net).bind λr1=>
bif (r1.2 == 0)then(
((zaI r1 p1 p0 ((r1.1.length:Int) - 0+2:Int).toNat 0 []:Option (Out (List S_api_Factor) ((List S_api_Factor)×Int)))).bind λo=>match o with
| .go l1=>(
some (l1,0))
| .ret r=>some r)
else(
some ([],r1.2))
variable{p0:S_eliminate_query}
theorem zfh{p1:Int}{r:((List S_api_Factor)×Int)}(h:zbo p0 p1=some r):Lx.Fn mC 51 [(.agg [(dI p0.net.grain),(fzE false zab p0.net.nodes),(fzE false (eI .i64) p0.known),(dI p0.node)]),(dU p1)] (.tup [(fzE true zaa r.1),(dI r.2)]):=by
 refine gnO ?_;unfold zbo at h;refine zad ?_;obtain⟨r1,g2,h⟩:=bsM h;refine sSM ?_;refine fCM (zlt g2) ?_;refine cBM h (λ_ h=>?_) λ_ h=>?_
 .exact rHM h
 obtain⟨o185,j185,h⟩:=bsM h;refine usM [] 1 (λa:(List S_api_Factor)=>([(8,(.sl 1 0 3 a.length none a.length))],[(0,.gone)],[.grow 3 (a.map (zaa.c true))])) λT185 hT185=>?_
 refine EvL.jn T185 (λa=>o185=.go a) ?_ ?_
 .refine wSM ?_;obtain⟨T329,hT329⟩:=mkT λa:(Int×(List S_api_Factor))=>⟨67,[(1,(dU p1)),(2,(.ptr 0 0)),(8,(.sl 1 0 3 a.2.length none a.2.length)),(22,(fzE true zaa r1.1)),(23,(dI (r1.1.length:Int))),(24,(dI a.1))],[.cells [(dI p0.net.grain),(fzE false zab p0.net.nodes),(fzE false (eI .i64) p0.known),(dI p0.node)],.grow 3 (a.2.map (zaa.c true))]⟩
  refine EvL.zgB (zbi.ghost (n:=3) (k:=8) (by decide) rfl) ?_;refine EvL.rounds (α:=(Int×(List S_api_Factor))) T329 (λn a=>zaI r1 p1 p0 n a.1 a.2=some o185) ((r1.1.length:Int) - 0+2:Int).toNat (0,[]) (by rw[hT329]; exact wm0 [.k,.k] ⟨MB.cs ⟨qds,qds,qds,qds,qds⟩,⟨MB.gs zaa true [],qds⟩⟩) j185 (λ_ h=>nomatch (show(none:Option (Out (List S_api_Factor) ((List S_api_Factor)×Int)))=some o185 from h)) ?_;rintro n ⟨v24,l1⟩ j185;simp only[zaI]at j185;refine wTM hT329 ?_;refine cBM j185 (λ_ j185=>?_) λ_ j185=>?_
  .exact zsT j185 hT185
  obtain⟨o350,j350,j185⟩:=bsM j185;obtain⟨T350,hT350⟩:=zdp hT329 λa:(List S_api_Factor)=>uDM (T329 (v24,l1)) [8] [(8,(.sl 1 0 3 a.length none a.length))] [(1,.grow 3 (a.map (zaa.c true)))] []
  refine EvL.jn T350 (λa=>o350=.go a) ?_ ?_
  .refine zad ?_;obtain⟨x5,g6,q7,g8,j350⟩:=zgs j350;refine sXM (anM @zc5 (anM (zaz (n:=3) (e:=zaa) rfl g6) (anM ((zaX g8).1) ((zaX g8).2)))) ?_;refine cBM j350 (λ_ j350=>?_) λ_ j350=>?_
   .obtain⟨o360,j360,j350⟩:=bsM j350;obtain⟨T360,hT360⟩:=zdp hT329 λa:((List Int)×(List Int)×(List Int))=>uDM (T329 (v24,l1)) [] [(10,(.ptr 2 0))] [] [.cells [(fzE true (eI .i64) a.1),(fzE true (eI .i64) a.2.1),(fzE true (eI .i64) a.2.2)]]
    refine EvL.jn T360 (λa=>o360=.go a) ?_ ?_
    .refine wSM ?_;obtain⟨T367,hT367⟩:=zdp hT329 λa:(Int×(List Int)×(List Int)×(List Int))=>uDM (T329 (v24,l1)) [] [(10,(.ptr 2 0)),(35,(fzE false (eI .i64) p0.known)),(36,(dI (p0.known.length:Int))),(37,(dI a.1))] [] [.cells [(fzE true (eI .i64) a.2.1),(fzE true (eI .i64) a.2.2.1),(fzE true (eI .i64) a.2.2.2)]]
     refine EvL.rounds (α:=(Int×(List Int)×(List Int)×(List Int))) T367 (λn a=>zaw p0 n a.1 a.2.1 a.2.2.1 a.2.2.2=some o360) ((p0.known.length:Int) - 0+2:Int).toNat (0,x5.vars,x5.zaf,x5.w) (by rw[hT367]; exact wAM) j360 (λ_ h=>nomatch (show(none:Option (Out ((List Int)×(List Int)×(List Int)) ((List S_api_Factor)×Int)))=some o360 from h)) ?_;rintro n ⟨v37,b2_0,b2_1,b2_2⟩ j360;simp only[zaw]at j360;refine wTM hT367 ?_;refine cBM j360 (λ_ j360=>?_) λ_ j360=>?_
     .exact zsT j360 hT360
     obtain⟨o369,j369,j360⟩:=bsM j360;obtain⟨T369,hT369⟩:=zdp hT367 λa:((List Int)×(List Int)×(List Int))=>uDM (T367 (v37,b2_0,b2_1,b2_2)) [] [] [(2,.cells [(fzE true (eI .i64) a.1),(fzE true (eI .i64) a.2.1),(fzE true (eI .i64) a.2.2)])] []
     refine EvL.jn T369 (λa=>o369=.go a) ?_ ?_
     .refine zad ?_;obtain⟨x11,g12,j369⟩:=bsM j369;refine sXM (ixM g12) ?_;obtain⟨o370,j370,j369⟩:=bsM j369;obtain⟨T370,hT370⟩:=zdp hT367 λa:Bool=>uDM (T367 (v37,b2_0,b2_1,b2_2)) [] [(11,(dI v37)),(12,(dI x11)),(49,(dB a))] [] []
      refine EvL.jn T370 (λa=>a=o370) ?_ ?_
      .refine wSM ?_;refine cBM j370 (λ_ j370=>?_) λ_ j370=>?_
       .obtain⟨r14,g15,j370⟩:=bsM j370;refine sSM ?_;refine fCM (zgf g15) ?_;exact zde j370 hT370
       refine EvL.skip rfl ?_;refine sSM ?_;exact zde j370 hT370
      rintro v49 rfl;refine wTM hT370 ?_;refine cBM j369 (λ_ j369=>?_) λ_ j369=>?_
      .obtain⟨r17,g18,j369⟩:=bsM j369;refine sSM ?_;refine fCM (znV g18) ?_;refine cBM j369 (λ_ j369=>?_) λ_ j369=>?_
       .obtain rfl:=qaf j369;obtain rfl:=qaf j360;obtain rfl:=qaf j350;obtain rfl:=qaf j185;exact rHM h
       exact zsT j369 hT369
      exact zsT j369 hT369
     rintro⟨b2_0',b2_1',b2_2'⟩ rfl;dsimp only at j360;refine wTM hT369 ?_;exact zcz hT367 ((w64 (v37+1)),b2_0',b2_1',b2_2') j360
    rintro⟨b2_0,b2_1,b2_2⟩ rfl;dsimp only at j350;refine wTM hT360 ?_;obtain⟨y20,g21,j350⟩:=bsM j350;refine sXM (anM (zb9 g21) (anM (plM g21) (show l1.map (zaa.c true)++ [[(fzE true (eI .i64) b2_0),(fzE true (eI .i64) b2_1),(fzE true (eI .i64) b2_2)]]=y20.map (zaa.c true)from zdW g21 (zaa.c true)))) ?_;exact zsT j350 hT350
   exact zsT j350 hT350
  rintro l1' rfl;dsimp only at j185;refine wTM hT350 ?_;exact zcz hT329 ((w64 (v24+1)),l1') j185
 rintro l1 rfl;dsimp only at h;refine wTM hT185 ?_;exact rHM h
def zb7(p0:S_api_Net)(p1:(List Int))(p2:Int):Option (S_eliminate_query×Int):=
(zbG p0 p1).bind λr1=>
bif (r1 == 0)then(
((bif (decide (p2<0))then(
some true)
else(
some (decide ((p0.nodes.length:Int)<=p2))):Option Bool)).bind λv24=>
bif v24 then(
some ((S_eliminate_query.mk (S_api_Net.mk 0 []) [] 0),2))
else(
some ((S_eliminate_query.mk p0 p1 p2),0)))
else(
some ((S_eliminate_query.mk (S_api_Net.mk 0 []) [] 0),r1))
theorem zgg{p0:S_api_Net}{p1:(List Int)}{p2:Int}{r:(S_eliminate_query×Int)}(h:zb7 p0 p1 p2=some r):Lx.FnA mC 39 [(.agg [(dI p0.grain),(fzE false zab p0.nodes)]),(fzE false (eI .i64) p1),(dI p2)] (.tup [(.agg [(dI r.1.net.grain),(fzE false zab r.1.net.nodes),(fzE false (eI .i64) r.1.known),(dI r.1.node)]),(dI r.2)]):=by
 refine zCt ?_;unfold zb7 at h;refine zad ?_;obtain⟨r1,g2,h⟩:=bsM h;refine sSM ?_;refine fCM (zhk g2) ?_;refine cBM h (λ_ h=>?_) λ_ h=>?_
 .exact rHM h
 obtain⟨o1,j1,h⟩:=bsM h;refine usM [1,2,3,6] 2 (λa:Bool=>([(24,(dB a))],[],[])) λT1 hT1=>?_
 refine EvL.jn T1 _ (bJM j1 hT1) ?_;rintro v24 rfl;refine wTM hT1 ?_;refine cBM h (λ_ h=>?_) λ_ h=>?_
 .exact rHM h
 exact rHM h
def zay(N:Nat)(x15:S_api_Node)(p0:S_eliminate_query)(r11:(Int×Int))(b1_2:(List Int)):Nat->Int->(List S_api_Q)->Option (Out (List S_api_Q) ((List S_api_Q)×Int))
 | 0,_,_=>none
 | n+1,v55,l5=>(
bif (decide (v55<(((Int.toNat x15.zaF):Nat):Int)))then(
(zaE p0.known p0.node).bind λx20=>
((bif (x20 == v55)then(
some r11.1)
else(
bif (decide (x20<0))then(
(zaE b1_2 v55).bind λx24=>
some x24)
else(
some 0)):Option Int)).bind λv15=>
(ze8 N v15 r11.1).bind λr26=>
(zaE l5 v55).bind λx28=>
(zeT l5 v55 r26.1).bind λy30=>
bif (r26.2 == 0)then(
zay N x15 p0 r11 b1_2 n (w64 (v55+1)) y30)
else(
some (.ret ([],r26.2))))
else(
some (.go l5)))
def zap:List StI->(List Int)->(List Int)->(List Int)->Option ((List Int)×(List Int)×(List Int))
 | [],b1_0,b1_1,b1_2=>some (b1_0,b1_1,b1_2)
 | y10 :: ys,b1_0,b1_1,b1_2=>(
zap ys y10.1.product.vars y10.1.product.zaf y10.1.product.w)
def zaD(N:Nat)(p0:S_eliminate_query)(p1:(List Int))(p2:Int):Option ((List S_api_Q)×Int):=
(zbo p0 p2).bind λr1=>
bif (r1.2 == 0)then(
(zdN).bind λr4=>
(zel p0 r1.1 p1).bind λr6=>
(zoJ r6.1 r6.2.1 r6.2.2).bind λu8=>
((zap u8 r4.vars r4.zaf r4.w:Option ((List Int)×(List Int)×(List Int)))).bind λo=>match o with
|(b1_0,b1_1,b1_2)=>(
(zci (S_api_Factor.mk b1_0 b1_1 b1_2)).bind λr11=>
bif (r11.2 == 0)then(
bif (r11.1 == 0)then(
some ([],7))
else(
(zaE p0.net.nodes p0.node).bind λx15=>
(zd7 16 x15.zaF (S_api_Q.mk 0 0)).bind λy17=>
((zay N x15 p0 r11 b1_2 ((((Int.toNat x15.zaF):Nat):Int) - 0+2:Int).toNat 0 y17:Option (Out (List S_api_Q) ((List S_api_Q)×Int)))).bind λo=>match o with
| .go l5=>(
some (l5,0))
| .ret r=>some r))
else(
some ([],r11.2))))
else(
some ([],r1.2))
variable{r:((List S_api_Q)×Int)}
theorem zeU{p1:(List Int)}{p2:Int}(h:zaD N p0 p1 p2=some r):Lx.Fn mC 41 [(.agg [(dI p0.net.grain),(fzE false zab p0.net.nodes),(fzE false (eI .i64) p0.known),(dI p0.node)]),(fzE false (eI .i64) p1),(dU p2)] (.tup [(fzE true zbZ r.1),(dI r.2)]):=by
 refine gnO ?_;unfold zaD at h;refine zad ?_;obtain⟨r1,g2,h⟩:=bsM h;refine sSM ?_;refine fCM (zfh g2) ?_;refine cBM h (λ_ h=>?_) λ_ h=>?_
 .exact rHM h
 obtain⟨r4,g5,h⟩:=bsM h;refine sSM ?_;refine fCM (ziy g5) ?_;obtain⟨r6,g7,h⟩:=bsM h;refine sSM ?_;refine EvL.fnT (r:=(.clo 78 [] [(.fptr false ((eL (eI .i64)).c false r6.2.2)),(.fptr false (zaq.c false r6.1)),(.ptr 3 0)])) (L':=[.cells [(dI p0.net.grain),(fzE false zab p0.net.nodes),(fzE false (eI .i64) p0.known),(dI p0.node)],.cells [(fzE true (eI .i64) r4.vars),(fzE true (eI .i64) r4.zaf),(fzE true (eI .i64) r4.w)],.gone,.cells [(fzE false zaa r6.2.1)]]) (ziB g7) rfl rfl (.cons (Mzs.agg (.cons (.lit _) (.cons (zdw _ _ (λh=>by cases h<;>contradiction)) (.cons (zdw _ _ (λh=>by cases h<;>contradiction)) (.cons (.lit _) .nil))))) (.cons (zdw _ _ (λh=>by cases h<;>contradiction)) (.cons (zdw _ _ (λh=>by cases h<;>contradiction)) .nil))) ⟨⟨qds,(zb0 _ _),(zb0 _ _),qds,qds⟩,(zb0 _ _),(zb0 _ _),qds⟩ ⟨⟨qds,λy hy=>by simp only[qav,qbC,qdC]at hy; rcases hy with rfl | rfl | rfl<;>first | trivial | exact⟨rfl,(eL (eI .i64)).fr _⟩| exact⟨rfl,zaq.fr _⟩⟩,qds⟩ ⟨qds,⟨⟨zb0 _ _,qds⟩,qds⟩⟩ rfl rfl ?_;refine sXM @zbD ?_;obtain⟨u8,g9,h⟩:=bsM h;obtain⟨o1,j1,h⟩:=bsM h;obtain⟨T1,hM1⟩:∃ T:((List Int)×(List Int)×(List Int))->LB->List LB,T=(λa g=>[.cells [(dI p0.net.grain),(fzE false zab p0.net.nodes),(fzE false (eI .i64) p0.known),(dI p0.node)],.cells [(fzE true (eI .i64) a.1),(fzE true (eI .i64) a.2.1),(fzE true (eI .i64) a.2.2)],.gone,g]):=⟨_,rfl⟩;refine EvL.zgB (S':=⟨91,[(3,(.ptr 0 0)),(10,(.ptr 1 0)),(30,(.clo 78 [] [(.fptr false ((eL (eI .i64)).c false r6.2.2)),(.fptr false (zaq.c false r6.1)),(.ptr 3 0)]))],T1 (r4.vars,r4.zaf,r4.w) (stG r6.2.1 u8 0)⟩) (by rw[hM1,zvU g9]; exact wm0 [.k,.k,.k,.k] ⟨MB.cs ⟨qds,qds,qds,qds,qds⟩,⟨MB.cs ⟨qds,qds,qds,qds⟩,⟨MB.same trivial,⟨MB.same ⟨qds,qds⟩,qds⟩⟩⟩⟩) ?_;refine EvL.zHy (n0:=4) (zuL g9 3) rfl (bm:=.block 1 (.reg false false [⟨some 32,.fld 1 (.s 11),none⟩,⟨some 33,.load (some 3) (.s 32),none⟩,⟨none,.store 3 (.s 10) (.s 33),none⟩])) rfl T1 (λi a=>zap (u8.drop i) a.1 a.2.1 a.2.2=some o1) (λx L1=>match x with | .normal=>∃ a,∃ g,(∀ kp,LB.kin kp g)/\(∀ n,LB.sc n g)/\o1=a/\L1=T1 a g | .ret=>L1.length=4/\zdo (4+1) L1/\(zjI [.tmp 6,.tmp 7] ((.tup [(fzE true zbZ r.1),(dI r.2)]))) .ret ⟨91,[(3,(.ptr 0 0)),(10,(.ptr 1 0)),(30,(.clo 78 [] [(.fptr false ((eL (eI .i64)).c false r6.2.2)),(.fptr false (zaq.c false r6.1)),(.ptr 3 0)]))],L1 ++ [.lost]⟩| _=>False) (r4.vars,r4.zaf,r4.w) (by decide) ?_ ?_ ?_ (zvj _ _) (qau _) ?_ (zAO _ _) ?_ ?_ (λd L1 hx=>hx.elim) ?_ ?_ ?_ ?_ ?_ ?_
 .intros; rw[hM1]; rfl
 .intros; rw[hM1]; rfl
 .intros; rw[hM1]; rfl
 .exact⟨(qad rfl),(qad rfl),⟨qds,⟨qds,qds,(qad rfl),qds⟩⟩,qds⟩
 .intro a g hgs; rw[hM1]; exact⟨⟨qds,qds,qds,qds,qds⟩,⟨qds,qds,qds,qds⟩,qds,(hgs _),qds⟩
 .intro x L1 hx;cases x with
  | normal=>obtain⟨a,g,hgk,hgs,_,rfl⟩:=hx; exact⟨by rw[hM1]; rfl,by rw[hM1]; exact⟨⟨qds,qds,qds,qds,qds⟩,⟨qds,qds,qds,qds⟩,qds,(hgs _),qds⟩⟩
  | ret=>exact⟨hx.1,hx.2.1⟩
  | exit id=>exact hx.elim
  | panic d=>exact hx.elim
 .exact j1
 .rintro i ⟨b1_0,b1_1,b1_2⟩ y10 args G lpF g hy hi1 ⟨rfl,gB,hgB,rfl⟩ hkin hgk;rw[zf7 hy]at hi1;simp only[zap]at hi1;refine⟨_,_,_,rfl,.box (by decide) (by decide) rfl rfl rfl rfl,?_⟩;rw[congrFun (congrFun hM1 (b1_0,b1_1,b1_2)) g];refine zad ?_;refine sXM @zbD ?_;exact⟨T1 (y10.1.product.vars,y10.1.product.zaf,y10.1.product.w) g,by rw[hM1]; rfl,by rw[hM1]; exact zbi.mK [.k,.k,.k,.k,.k,.k,.k] rfl rfl qds ⟨MB.cs ⟨qds,qds,qds,qds,qds⟩,⟨MB.cs ⟨qds,qds,qds,qds⟩,⟨MB.same trivial,⟨MB.same (hgk _),⟨.same (hkin _ (by decide)),⟨MB.same trivial,⟨MB.same (hgB _),qds⟩⟩⟩⟩⟩⟩⟩,(y10.1.product.vars,y10.1.product.zaf,y10.1.product.w),hi1,rfl⟩
 .rintro⟨b1_0,b1_1,b1_2⟩ i hi1;rw[qbB]at hi1;simp only[zap]at hi1;exact⟨(b1_0,b1_1,b1_2),_,zvj _ _ _,zAO _ _ _,(qaf hi1).symm,rfl⟩
 .rintro _ ⟨⟨b1_0,b1_1,b1_2⟩,g,hgk,hgs,rfl,rfl⟩;dsimp only at h;rw[congrFun (congrFun hM1 (b1_0,b1_1,b1_2)) g];refine zad ?_;obtain⟨r11,g12,h⟩:=bsM h;refine sXM @zbD ?_;refine fCM (zkj g12) ?_;refine cBM h (λ_ h=>?_) λ_ h=>?_
  .exact rHM h
  refine cBM h (λ_ h=>?_) λ_ h=>?_
  .obtain⟨x15,g16,h⟩:=bsM h;obtain⟨y17,g18,h⟩:=bsM h;refine sXM (anM @zaj (anM (zaz (n:=3) (e:=zab) rfl g16) (anM ((zar g18).1.1) (anM ((zar g18).1.2) (anM @qbI (anM (show List.replicate (Int.toNat x15.zaF) [(dI 0),(dI 0)]=y17.map (zbZ.c true)from zfF g18 (zbZ.c true)) (zbh g18))))))) ?_;obtain⟨o5,j5,h⟩:=bsM h;obtain⟨T5,hT5⟩:=mkT λa:(List S_api_Q)=>⟨91,[(13,(.sl 5 0 2 (Int.toNat x15.zaF) (some (Int.toNat x15.zaF)) (Int.toNat x15.zaF)))],[.gone,.gone,.gone,.gone,.gone,.els 2 (a.map (zbZ.c true))]⟩
   refine EvL.jn T5 (λa=>o5=.go a/\a.length=(Int.toNat x15.zaF)) ?_ ?_
   .refine wSM ?_;obtain⟨T8,hT8⟩:=mkT λa:(Int×(List S_api_Q))=>⟨91,[(3,(.ptr 0 0)),(10,(.ptr 1 0)),(12,(dI r11.1)),(13,(.sl 5 0 2 (Int.toNat x15.zaF) (some (Int.toNat x15.zaF)) (Int.toNat x15.zaF))),(54,(dI (((Int.toNat x15.zaF):Nat):Int))),(55,(dI a.1))],[.cells [(dI p0.net.grain),(fzE false zab p0.net.nodes),(fzE false (eI .i64) p0.known),(dI p0.node)],.cells [(fzE true (eI .i64) b1_0),(fzE true (eI .i64) b1_1),(fzE true (eI .i64) b1_2)],.gone,.gone,.gone,.els 2 (a.2.map (zbZ.c true))]⟩
    refine rdM hT8 (λn a=>zay N x15 p0 r11 b1_2 n a.1 a.2=some o5/\a.2.length=(Int.toNat x15.zaF)) (0,y17) ⟨j5,zbh g18⟩ ?_;rintro n ⟨v55,l5⟩ ⟨j5,el5⟩;simp only[zay]at j5;refine wTM hT8 ?_;refine cBM j5 (λ_ j5=>?_) λ_ j5=>?_
    .obtain rfl:=qaf j5;exact zcz hT5 _ ⟨rfl,el5⟩
    obtain⟨x20,g21,j5⟩:=bsM j5;refine sXM (ixM g21) ?_;obtain⟨o9,j9,j5⟩:=bsM j5;obtain⟨T9,hT9⟩:=zdp hT8 λa:Int=>uDM (T8 (v55,l5)) [] [(14,(dI v55)),(15,(dI a))] [] []
    refine EvL.jn T9 (λa=>a=o9) ?_ ?_
    .refine wSM ?_;refine cBM j9 (λ_ j9=>?_) λ_ j9=>?_
     .refine cBM j9 (λ_ j9=>?_) λ_ j9=>?_
      .exact zde j9 hT9
      obtain⟨x24,g25,j9⟩:=bsM j9;refine sXM (ixM g25) ?_;exact zde j9 hT9
     exact zde j9 hT9
    rintro v15 rfl;refine wTM hT9 ?_;obtain⟨r26,g27,j5⟩:=bsM j5;refine sSM ?_;refine fCM (zpQ g27) ?_;obtain⟨x28,g29,j5⟩:=bsM j5;obtain⟨y30,g31,j5⟩:=bsM j5;refine sXM (anM @zg7 (anM el5 (anM (za2 g29) (anM (show v55<(((Int.toNat x15.zaF):Nat):Int)from el5 ▸ zeh g29) (anM (zcn g29 (zbZ.c true)) (show(l5.map (zbZ.c true)).set v55.toNat [(dI r26.1.n),(dI r26.1.d)]=y30.map (zbZ.c true)from zd6 g31 (zbZ.c true))))))) ?_;refine cBM j5 (λ_ j5=>?_) λ_ j5=>?_
    .obtain rfl:=qaf j5;exact rHM h
    exact zcz hT8 ((w64 (v55+1)),y30) ⟨j5,(zaS g31).trans el5⟩
   rintro l5 ⟨rfl,el5⟩;dsimp only at h;refine wTM hT5 ?_;exact rHM h
  exact rHM h
 .intro id L1 hx; exact hx.elim
 intro L1 hx; exact hx.2.2
def zbt(N:Nat)(p0:S_api_Net)(p1:(List Int))(p2:Int)(p3:(List Int)):Option ((List S_api_Q)×Int):=
(zb7 p0 p1 p2).bind λr1=>
bif (r1.2 == 0)then(
(zbp r1.1 p3).bind λr4=>
bif r4 then(
(zpp .u64 1 (r1.1.net.nodes.length:Int)).bind λq7=>
(zaD N r1.1 p3 (IntKind.u64.wrap (q7 - 1))).bind λr9=>
some (r9.1,r9.2))
else(
some ([],2)))
else(
some ([],r1.2))
theorem zed{p0:S_api_Net}{p1:(List Int)}{p2:Int}{p3:(List Int)}(h:zbt N p0 p1 p2 p3=some r):Lx.Fn mC 14 [(.agg [(dI p0.grain),(fzE false zab p0.nodes)]),(fzE false (eI .i64) p1),(dI p2),(fzE false (eI .i64) p3)] (.tup [(fzE true zbZ r.1),(dI r.2)]):=by
 refine gnO ?_;unfold zbt at h;refine zad ?_;obtain⟨r1,g2,h⟩:=bsM h;refine sSM ?_;refine fDM (zgg g2) ?_;refine cBM h (λ_ h=>?_) λ_ h=>?_
 .exact rHM h
 obtain⟨r4,g5,h⟩:=bsM h;refine sSM ?_;refine fCM (zfi g5) ?_;refine cBM h (λ_ h=>?_) λ_ h=>?_
 .exact rHM h
 obtain⟨q7,g8,h⟩:=bsM h;obtain⟨r9,g10,h⟩:=bsM h;refine sXM (anM ((zbK g8).1) ((zbK g8).2)) ?_;refine fCM (zeU g10) ?_;exact rHM h
def zce(N:Nat)(p0:S_api_Net)(p1:(List Int))(p2:Int):Option (Int×Int):=
(zb7 p0 p1 p2).bind λr1=>
bif (r1.2 == 0)then(
(zaQ N r1.1).bind λr4=>
some (r4,0))
else(
some (0,r1.2))
theorem zhz{p0:S_api_Net}{p1:(List Int)}{p2:Int}{r:(Int×Int)}(h:zce N p0 p1 p2=some r):Lx.Fn mC 22 [(.agg [(dI p0.grain),(fzE false zab p0.nodes)]),(fzE false (eI .i64) p1),(dI p2)] (.tup [(dU r.1),(dI r.2)]):=by
 refine gnO ?_;unfold zce at h;refine zad ?_;obtain⟨r1,g2,h⟩:=bsM h;refine sSM ?_;refine fDM (zgg g2) ?_;refine cBM h (λ_ h=>?_) λ_ h=>?_
 .exact rHM h
 obtain⟨r4,g5,h⟩:=bsM h;refine sSM ?_;refine fCM (zft g5) ?_;exact rHM h
end Go.Dc
