/-
 What r02_Places computes. Conditions: none.
-/
import Derived.Test.YtbjogdohfhdaiaaGreatErJ1
import Derived.Test.YtbjogdohfhdaiaaGreatErJ2
import Derived.Test.YtbjogdohfhdaiaaGreatErJ3
import Derived.Test.YtbjogdohfhdaiaaGreatErLi
set_option linter.unusedSimpArgs false
set_option linter.unusedVariables false
set_option maxRecDepth 100000
set_option maxHeartbeats 4000000
namespace Go.Dc
open Go Go.Mx Go.Lx Go.Proofs
def zav(p0:(List Int))(p1:Int):Nat->Int->Int->Option Int
 | 0,_,_=>none
 | n+1,v7,v8=>(
bif (decide (v7<v8))then(
(ziN .u64 (IntKind.u64.wrap (w64 (v7+v8))) 1).bind λq2=>
(zaE p0 (w64 q2)).bind λx4=>
(zes x4 p1).bind λr6=>
bif r6 then(
zav p0 p1 n (w64 ((w64 q2)+1)) v8)
else(
zav p0 p1 n v7 (w64 q2)))
else(
some v7))
def za0(p0:(List Int))(p1:Int):Option (Int×Bool):=
((zav p0 p1 ((p0.length:Int) - 0+2:Int).toNat 0 (p0.length:Int):Option Int)).bind λv7=>
((bif (decide (v7<(p0.length:Int)))then(
(zaE p0 v7).bind λx10=>
bif (x10 == p1)then(
some true)
else(
(zcg x10).bind λr13=>
bif r13 then(
(zcg p1).bind λr16=>
some r16)
else(
some false)))
else(
some false):Option Bool)).bind λv5=>
some (v7,v5)
theorem zeE{p0:(List Int)}{p1:Int}{r:(Int×Bool)}(h:za0 p0 p1=some r):Lx.Fn mC 122 [(fzE false (eI .i64) p0),(dI p1)] (.tup [(dI r.1),(dB r.2)]):=by
 refine gnO ?_;unfold za0 at h;refine wSM ?_;obtain⟨o1,j1,h⟩:=bsM h;refine usM [0,1,6] 0 (λa:Int=>([(7,(dI a))],[],[])) λT1 hT1=>?_
 refine EvL.jn T1 (λa=>a=o1) ?_ ?_
 .refine wSM ?_;refine usM [0,1,6] 0 (λa:(Int×Int)=>([(7,(dI a.1)),(8,(dI a.2))],[],[])) λT2 hT2=>?_
  refine rdM hT2 (λn a=>zav p0 p1 n a.1 a.2=some o1) (0,(p0.length:Int)) j1 ?_;rintro n ⟨v7,v8⟩ j1;simp only[zav]at j1;refine wTM hT2 ?_;cases c1:(decide (v7<v8))
  .rw[c1,qdu]at j1;refine sSM ?_;replace j1:=qaf j1; subst j1;exact lfj hT1 rfl (wm0 [] (by exact trivial))
  rw[c1,qdt]at j1;obtain⟨q2,g3,x4,g5,r6,g7,j1⟩:=zjp j1;try simp only[rnA,Nat.reduceEqDiff,Nat.reduceLT,reduceCtorEq,(zaX g3).1,(zaX g3).2,zaz (n:=1) (e:=(eI .i64)) rfl g5]
  refine EvL.fn (zlh g7) rfl rfl (.cons (.lit _) (.cons (.lit _) .nil)) ?_;refine sSM ?_;refine cBM j1 (λ_ j1=>?_) λ_ j1=>?_
  .exact zcz hT2 (v7,(w64 q2)) j1
  exact zcz hT2 ((w64 ((w64 q2)+1)),v8) j1
 rintro v7 rfl;refine wTM hT1 ?_;obtain⟨o3,j3,h⟩:=bsM h;refine usM [] 0 (λa:Bool=>([(4,(dI v7)),(5,(dB a))],[],[])) λT3 hT3=>?_
 refine EvL.jn T3 (λa=>a=o3) ?_ ?_
 .refine wSM ?_;refine cBM j3 (λ_ j3=>?_) λ_ j3=>?_
  .refine EvL.skip rfl ?_;refine sSM ?_;refine EvL.skip rfl ?_;refine sSM ?_;obtain rfl:=qaf j3;exact zcz hT3 _ rfl
  obtain⟨x10,g11,j3⟩:=bsM j3;refine sXM (ixM g11) ?_;refine cBM j3 (λ_ j3=>?_) λ_ j3=>?_
  .obtain⟨r13,g14,j3⟩:=bsM j3;refine sXM (ixM g11) ?_;refine fCM (ze7 g14) ?_;refine cBM j3 (λ_ j3=>?_) λ_ j3=>?_
   .refine EvL.skip rfl ?_;refine sSM ?_;exact zde j3 hT3
   obtain⟨r16,g17,j3⟩:=bsM j3;refine sSM ?_;refine fCM (ze7 g17) ?_;exact zde j3 hT3
  refine EvL.skip rfl ?_;refine sSM ?_;refine EvL.skip rfl ?_;refine sSM ?_;exact zde j3 hT3
 rintro v5 rfl;refine wTM hT3 ?_;exact rHM h
def za7(y7:(List Int))(p0:S_net_network)(r3:(Int×Bool)):Nat->Int->Int->(List Int)->Option (Int×(List Int))
 | 0,_,_,_=>none
 | n+1,v40,b6_0,l7=>(
bif (decide (v40<((y7.length:Nat):Int)))then(
(zaE y7 v40).bind λx10=>
(zaE p0.zaf x10).bind λx12=>
(zdE 8 l7 [x12]).bind λy14=>
((bif (decide (r3.1<v40))then(
some (w64 (b6_0 * x12)))
else(
some b6_0):Option Int)).bind λb6_0'=>
za7 y7 p0 r3 n (w64 (v40+1)) b6_0' y14)
else(
some (b6_0,l7)))
def za8(y23:(Int×(List Int)))(b6_0:Int)(x1:S_api_Node):Nat->Int->(List Int)->Option (List Int)
 | 0,_,_=>none
 | n+1,v80,l8'=>(
bif (decide (v80<(y23.2.length:Int)))then(
(zaE y23.2 v80).bind λx25=>
(zkp .i64 y23.1 b6_0).bind λq27=>
(zp3 y23.1 b6_0).bind λq29=>
(zaE l8' (w64 ((w64 ((w64 ((w64 (q27 * x1.zaF))+v80))* b6_0))+q29))).bind λx31=>
(zeT l8' (w64 ((w64 ((w64 ((w64 (q27 * x1.zaF))+v80))* b6_0))+q29)) x25).bind λy33=>
za8 y23 b6_0 x1 n (w64 (v80+1)) y33)
else(
some l8'))
def za9(b6_0:Int)(x1:S_api_Node):List (Int×(List Int))->(List Int)->Option (List Int)
 | [],l8=>some l8
 | y23 :: ys,l8=>(
((za8 y23 b6_0 x1 ((y23.2.length:Int) - 0+2:Int).toNat 0 l8:Option (List Int))).bind λl8'=>
za9 b6_0 x1 ys l8')
def zbU(p0:S_net_network)(p1:Int):Option S_api_Factor:=
(zaE p0.net.nodes p1).bind λx1=>
(za0 x1.parents p1).bind λr3=>
(zex 8 x1.parents).bind λy5=>
(zCN 8 y5 r3.1 [p1]).bind λy7=>
((za7 y7 p0 r3 (((y7.length:Nat):Int) - 0+2:Int).toNat 0 1 []:Option ((Int×(List Int))))).bind λo=>match o with
|(b6_0,l7)=>(
(zd7 8 (w64 ((x1.rows.length:Int)* x1.zaF)) 0).bind λy17=>
(zfL x1).bind λr19=>
(zfm r19.rows).bind λu21=>
((za9 b6_0 x1 (zuo r19.rows) y17:Option (List Int))).bind λl8=>
some (S_api_Factor.mk y7 l7 l8))
theorem zgW{p0:S_net_network}{p1:Int}{r:S_api_Factor}(h:zbU p0 p1=some r):Lx.Fn mC 104 [(.agg [(dI p0.net.grain),(fzE false zab p0.net.nodes),(fzE false (eI .i64) p0.zaf),(fzE false (eI .u64) p0.sets),(fzE false (eI .i64) p0.order)]),(dI p1)] (.agg [(fzE true (eI .i64) r.vars),(fzE true (eI .i64) r.zaf),(fzE true (eI .i64) r.w)]):=by
 refine gnO ?_;unfold zbU at h;refine zad ?_;obtain⟨x1,g2,r3,g4,h⟩:=zgs h;refine sXM (anM @zaj (zaz (n:=3) (e:=zab) rfl g2)) ?_;refine fCM (zeE g4) ?_;obtain⟨y5,g6,h⟩:=bsM h;refine sSM ?_;refine EvL.clone (t:=false) (zs:=x1.parents) g6 rfl rfl ?_;obtain⟨y7,g8,h⟩:=bsM h;refine sSM ?_;refine EvL.insert (zs:=y5) (t:=true) (us:=[p1]) (t2:=true) g8 rfl rfl rfl rfl rfl rfl rfl rfl rfl ?_;refine sSM ?_;obtain⟨o5,j5,h⟩:=bsM h;refine usM [4,5,8,9] 7 (λa:(Int×(List Int))=>([],[(0,.gone),(4,.gone),(5,.cells [(.sl 3 0 1 y7.length none y7.length),(.sl 7 0 1 a.2.length none a.2.length),zez]),(6,.cells [(dI a.1)])],[.grow 1 (a.2.map ((eI .i64).c true))])) λT5 hT5=>?_
 refine EvL.jn T5 (λa=>a=o5) ?_ ?_
 .refine wSM ?_;refine usM [2,4,5,6,8,9,38,39] 7 (λa:(Int×Int×(List Int))=>([(40,(dI a.1))],[(4,.gone),(5,.cells [(.sl 3 0 1 y7.length none y7.length),(.sl 7 0 1 a.2.2.length none a.2.2.length),zez]),(6,.cells [(dI a.2.1)])],[.grow 1 (a.2.2.map ((eI .i64).c true))])) λT9 hT9=>?_
  refine EvL.zgB (zbi.zpi (n:=1) (β:=5) (o:=1) (by decide) rfl rfl) ?_;refine EvL.rounds (α:=(Int×Int×(List Int))) T9 (λn a=>za7 y7 p0 r3 n a.1 a.2.1 a.2.2=some o5) (((y7.length:Nat):Int) - 0+2:Int).toNat (0,1,[]) (by rw[hT9]; exact wm0 [.k,.k,.k,.k,.d,.k,.k,.k] ⟨MB.cs ⟨qds,qds,qds,qds,qds,qds⟩,⟨MB.cs ⟨qds,qds,qds,qds⟩,⟨MB.cs ⟨qds,qds,qds,qds⟩,⟨MB.es (eI .i64) true y7,⟨rfl,⟨MB.cs ⟨rfl,rfl,qds,qds⟩,⟨MB.cs ⟨qds,qds⟩,⟨MB.gs (eI .i64) true [],qds⟩⟩⟩⟩⟩⟩⟩⟩) j5 (λ_ h=>nomatch (show(none:Option (Int×(List Int)))=some o5 from h)) ?_;rintro n ⟨v40,b6_0,l7⟩ j5;simp only[za7]at j5;refine wTM hT9 ?_;refine cBM j5 (λ_ j5=>?_) λ_ j5=>?_
  .exact zde j5 hT5
  obtain⟨x10,g11,x12,g13,y14,g15,j5⟩:=zjp j5;refine sXM (anM (za2 g11) (anM (show v40<((y7.length:Nat):Int)from zeh g11) (anM (giM g11) (anM (ixM g13) (anM (zb9 g15) (anM (plM g15) (piM g15))))))) ?_;obtain⟨o10,j10,j5⟩:=bsM j5;obtain⟨T10,hT10⟩:=zdp hT9 λa:Int=>uDM (T9 (v40,b6_0,l7)) [] [] [(5,.cells [(.sl 3 0 1 y7.length none y7.length),(.sl 7 0 1 y14.length none y14.length),zez]),(6,.cells [(dI a)]),(7,.grow 1 (y14.map ((eI .i64).c true)))] []
  refine EvL.jn T10 (λa=>a=o10) ?_ ?_
  .refine wSM ?_;refine cBM j10 (λ_ j10=>?_) λ_ j10=>?_
   .exact zde j10 hT10
   refine sXM (ixM g13) ?_;exact zde j10 hT10
  rintro b6_0' rfl;refine wTM hT10 ?_;exact zcz hT9 ((w64 (v40+1)),b6_0',y14) j5
 rintro⟨b6_0,l7⟩ rfl;dsimp only at h;refine wTM hT5 ?_;obtain⟨y17,g18,r19,g20,h⟩:=zgs h;refine sXM (anM ((zar g18).1.1) (anM ((zar g18).1.2) (anM @qbI (miM g18)))) ?_;refine fDM (zkZ g20) ?_;refine sXM @zaj ?_;obtain⟨u21,g22,o15,j15,h⟩:=zgs h;obtain⟨T15,hM15⟩:∃ T:(List Int)->List LB,T=(λa=>[.gone,.cells [zez,zez,zez],.cells [(dI x1.zaF),(fzE false (eI .i64) x1.parents),(fzE false (eL (eI .i64)) x1.rows)],.els 1 (y7.map ((eI .i64).c true)),.gone,.cells [(.sl 3 0 1 y7.length none y7.length),(.sl 7 0 1 l7.length none l7.length),(.sl 8 0 1 (Int.toNat (w64 ((x1.rows.length:Int)* x1.zaF))) (some (Int.toNat (w64 ((x1.rows.length:Int)* x1.zaF)))) (Int.toNat (w64 ((x1.rows.length:Int)* x1.zaF))))],.cells [(dI b6_0)],.grow 1 (l7.map ((eI .i64).c true)),.els 1 (a.map ((eI .i64).c true))]):=⟨_,rfl⟩;refine EvL.zgB (S':=⟨105,[(4,(.ptr 1 0)),(5,(.ptr 2 0)),(8,(.ptr 5 0)),(9,(.ptr 6 0)),(75,(.clo 129 [] [(.fptr false (zab.c false r19))]))],T15 y17⟩) (by rw[hM15]; exact wm0 [.k,.k,.k,.k,.k,.k,.k,.k,.k] ⟨MB.same trivial,⟨MB.cs ⟨qds,qds,qds,qds⟩,⟨MB.cs ⟨qds,qds,qds,qds⟩,⟨MB.es (eI .i64) true y7,⟨MB.same trivial,⟨MB.cs ⟨rfl,rfl,rfl,qds⟩,⟨MB.cs ⟨qds,qds⟩,⟨MB.gs (eI .i64) true l7,⟨MB.es (eI .i64) true y17,qds⟩⟩⟩⟩⟩⟩⟩⟩⟩) ?_;refine EvL.zgF (n0:=9) (zjx r19 g22) rfl (bm:=.block 3 (.seq (.reg false false [⟨some 78,.mov (.s 13),none⟩,⟨some 79,.len (.s 78),none⟩,⟨some 80,.mov (.c (.int .i64 0)),none⟩]) (.scope (.block 4 (.loop (.seq (.reg false false [⟨some 81,.bin .lss (.s 80) (.s 79),none⟩]) (.seq (.cond (.s 81) (.skip) (.exit 4)) (.seq (.block 5 (.seq (.reg false false [⟨some 82,.mov (.s 80),none⟩,⟨some 83,.idxS 1 (.s 78) (.s 80),none⟩,⟨some 84,.load none (.s 83),none⟩,⟨some 14,.mov (.s 82),none⟩,⟨some 15,.mov (.s 84),none⟩]) (.reg true false [⟨some 85,.fld 2 (.s 8),none⟩,⟨some 86,.load none (.s 85),none⟩,⟨some 87,.mov (.s 12),none⟩,⟨some 88,.load none (.s 9),none⟩,⟨some 89,.bin .quo (.s 87) (.s 88),none⟩,⟨some 90,.fld 0 (.s 5),none⟩,⟨some 91,.load none (.s 90),none⟩,⟨some 92,.bin .mul (.s 89) (.s 91),none⟩,⟨some 93,.mov (.s 14),none⟩,⟨some 94,.bin .add (.s 92) (.s 93),none⟩,⟨some 95,.load none (.s 9),none⟩,⟨some 96,.bin .mul (.s 94) (.s 95),none⟩,⟨some 97,.mov (.s 12),none⟩,⟨some 98,.load none (.s 9),none⟩,⟨some 99,.bin .rem (.s 97) (.s 98),none⟩,⟨some 100,.bin .add (.s 96) (.s 99),none⟩,⟨some 101,.mov (.s 15),none⟩,⟨some 102,.idxS 1 (.s 86) (.s 100),none⟩,⟨none,.store 1 (.s 102) (.s 101),none⟩]))) (.reg false false [⟨some 103,.bin .add (.s 80) (.c (.int .i64 1)),none⟩,⟨some 80,.mov (.s 103),none⟩]))))))))) rfl T15 (λi a=>za9 b6_0 x1 ((zuo r19.rows).drop i) a=some o15/\a.length=(Int.toNat (w64 ((x1.rows.length:Int)* x1.zaF)))) (λx L1=>match x with | .normal=>∃ a,o15=a/\a.length=(Int.toNat (w64 ((x1.rows.length:Int)* x1.zaF)))/\L1=T15 a | .ret=>L1.length=9/\zdo (9+1) L1/\(zjI [.cell 4 (some 3)] ((.agg [(fzE true (eI .i64) r.vars),(fzE true (eI .i64) r.zaf),(fzE true (eI .i64) r.w)]))) .ret ⟨105,[(4,(.ptr 1 0)),(5,(.ptr 2 0)),(8,(.ptr 5 0)),(9,(.ptr 6 0)),(75,(.clo 129 [] [(.fptr false (zab.c false r19))]))],L1 ++ [.lost]⟩| _=>False) y17 ?_ (qau _) ?_ ?_ ?_ (λd L1 hx=>hx.elim) ?_ ?_ ?_ ?_ ?_ ?_
 .intro a; rw[hM15]; rfl
 .exact⟨(qad rfl),(qad rfl),(qad rfl),(qad rfl),⟨qds,⟨qds,qds⟩⟩,qds⟩
 .intro a; rw[hM15]; exact⟨qds,⟨qds,qds,qds,qds⟩,⟨qds,qds,qds,qds⟩,(zdU (eI .i64) _ _ _),qds,⟨(qad rfl),(qad rfl),(qad rfl),qds⟩,⟨qds,qds⟩,(zdU (eI .i64) _ _ _),(zdU (eI .i64) _ _ _),qds⟩
 .intro x L1 hx;cases x with
  | normal=>obtain⟨a,_,_,rfl⟩:=hx; exact⟨by rw[hM15]; rfl,by rw[hM15]; exact⟨qds,⟨qds,qds,qds,qds⟩,⟨qds,qds,qds,qds⟩,(zdU (eI .i64) _ _ _),qds,⟨(qad rfl),(qad rfl),(qad rfl),qds⟩,⟨qds,qds⟩,(zdU (eI .i64) _ _ _),(zdU (eI .i64) _ _ _),qds⟩⟩
  | ret=>exact⟨hx.1,hx.2.1⟩
  | exit id=>exact hx.elim
  | panic d=>exact hx.elim
 .exact⟨j15,zbh g18⟩
 .rintro i l8 y23 args G lpF hy ⟨hi15,el8⟩ ⟨rfl,rfl⟩ hkin;rw[zf7 hy]at hi15;simp only[za9]at hi15;refine⟨_,_,rfl,rfl,?_⟩;rw[congrFun hM15 l8];refine zad ?_;refine sXM @zaj ?_;obtain⟨o16,j16,hi15⟩:=bsM hi15;refine usM [] 10 (λa:(List Int)=>([],[(8,.els 1 (a.map ((eI .i64).c true)))],[])) λT16 hT16=>?_
  refine EvL.jn T16 (λa=>a=o16/\a.length=(Int.toNat (w64 ((x1.rows.length:Int)* x1.zaF)))) ?_ ?_
  .refine wSM ?_;refine usM [5,8,9,12,78,79] 10 (λa:(Int×(List Int))=>([(80,(dI a.1))],[(8,.els 1 (a.2.map ((eI .i64).c true)))],[])) λT17 hT17=>?_
   refine EvL.rounds (α:=(Int×(List Int))) T17 (λn a=>za8 y23 b6_0 x1 n a.1 a.2=some o16/\a.2.length=(Int.toNat (w64 ((x1.rows.length:Int)* x1.zaF)))) ((y23.2.length:Int) - 0+2:Int).toNat (0,l8) (by rw[hT17]; exact zbi.mK (k0:=10) [.k,.k,.k,.k,.k,.k,.k,.k,.k,.k] rfl rfl (msq (msq (msq (msq (msq (msq (msq trivial))))))) ⟨MB.same trivial,⟨MB.cs ⟨qds,qds,qds,qds⟩,⟨MB.cs ⟨qds,qds,qds,qds⟩,⟨MB.es (eI .i64) true y7,⟨MB.same trivial,⟨MB.cs ⟨rfl,rfl,rfl,qds⟩,⟨MB.cs ⟨qds,qds⟩,⟨MB.gs (eI .i64) true l7,⟨MB.es (eI .i64) true l8,⟨.same (hkin _ (by decide)),qds⟩⟩⟩⟩⟩⟩⟩⟩⟩⟩) ⟨j16,el8⟩ (λ_ h=>nomatch (show(none:Option (List Int))=some o16 from h.1)) ?_;rintro n ⟨v80,l8'⟩ ⟨j16,el8'⟩;simp only[za8]at j16;refine wTM hT17 ?_;refine cBM j16 (λ_ j16=>?_) λ_ j16=>?_
   .obtain rfl:=qaf j16;exact⟨_,⟨rfl,el8'⟩,by rw[hT16]; exact zbi.mK (k0:=10) [.k,.k,.k,.k,.k,.k,.k,.k,.k,.k] rfl rfl qds ⟨MB.same trivial,⟨MB.cs ⟨qds,qds,qds,qds⟩,⟨MB.cs ⟨qds,qds,qds,qds⟩,⟨MB.es (eI .i64) true y7,⟨MB.same trivial,⟨MB.cs ⟨rfl,rfl,rfl,qds⟩,⟨MB.cs ⟨qds,qds⟩,⟨MB.gs (eI .i64) true l7,⟨MB.es (eI .i64) true l8',⟨.same (hkin _ (by decide)),qds⟩⟩⟩⟩⟩⟩⟩⟩⟩⟩⟩
   obtain⟨x25,g26,q27,g28,q29,g30,j16⟩:=zjp j16;obtain⟨x31,g32,y33,g34,j16⟩:=zgs j16;refine sXM (anM (ixM g26) (anM (zfe g28) (anM (zfg g28) (anM (zgD g30) (anM el8' (anM (za2 g32) (anM (ltM el8' g32) (anM (giM g32) (siM g34))))))))) ?_;exact⟨((w64 (v80+1)),y33),⟨j16,(zaS g34).trans el8'⟩,by rw[hT17]; exact zbi.mK (k0:=10) [.k,.k,.k,.k,.k,.k,.k,.k,.k,.k] rfl rfl (msq (msq (msq (msq (msq (msq (msq trivial))))))) ⟨MB.same trivial,⟨MB.cs ⟨qds,qds,qds,qds⟩,⟨MB.cs ⟨qds,qds,qds,qds⟩,⟨MB.es (eI .i64) true y7,⟨MB.same trivial,⟨MB.cs ⟨rfl,rfl,rfl,qds⟩,⟨MB.cs ⟨qds,qds⟩,⟨MB.gs (eI .i64) true l7,⟨MB.es (eI .i64) true y33,⟨.same (hkin _ (by decide)),qds⟩⟩⟩⟩⟩⟩⟩⟩⟩⟩⟩
  rintro l8' ⟨rfl,el8'⟩;refine wTM hT16 ?_;exact⟨T15 l8',by rw[hM15]; rfl,by rw[hM15]; exact zbi.mK [.k,.k,.k,.k,.k,.k,.k,.k,.k,.k] rfl rfl qds ⟨MB.same trivial,⟨MB.cs ⟨qds,qds,qds,qds⟩,⟨MB.cs ⟨qds,qds,qds,qds⟩,⟨MB.es (eI .i64) true y7,⟨MB.same trivial,⟨MB.cs ⟨rfl,rfl,rfl,qds⟩,⟨MB.cs ⟨qds,qds⟩,⟨MB.gs (eI .i64) true l7,⟨MB.es (eI .i64) true l8',⟨.same (hkin _ (by decide)),qds⟩⟩⟩⟩⟩⟩⟩⟩⟩⟩,l8',⟨hi15,el8'⟩,rfl⟩
 .rintro l8 ⟨hi15,el8⟩;rw[qbB]at hi15;simp only[za9]at hi15;exact⟨l8,(qaf hi15).symm,el8,rfl⟩
 .rintro _ ⟨l8,oeq,el8,rfl⟩;have oeq2:=oeq.symm;subst oeq2;rw[congrFun hM15 l8];refine zad ?_;refine sXM @zaj ?_;exact rHM h
 .intro id L1 hx; exact hx.elim
 intro L1 hx; exact hx.2.2
def zgS(p0:S_haruspexlaw09_Ask)(p1:S_api_Net):Option A4_S_haruspexlaw09_Ask:=
(zcj p0.known p1).bind λr1=>
(zcl p0 (p1.nodes.length:Int)).bind λr3=>
(zev p0.e 0 (zmI (p0.e.length:Int) 10)).bind λy5=>
(zev p0.order 0 (zmI (p0.order.length:Int) 10)).bind λy7=>
(zdb (p1.nodes.length:Int) r3 p0.l).bind λr9=>
some (A4_S_haruspexlaw09_Ask.mk (S_haruspexlaw09_Ask.mk (S_haruspexref05_Known.mk 0 (A8_Intu8.mk 0 0 0 0 0 0 0 0)) r3 (A8_Intu8.mk 0 0 0 0 0 0 0 0) r1 r9) (S_haruspexlaw09_Ask.mk (S_haruspexref05_Known.mk 0 (A8_Intu8.mk 0 0 0 0 0 0 0 0)) r3 (A8_Intu8.mk 0 0 0 0 0 0 0 0) y5 r9) (S_haruspexlaw09_Ask.mk (S_haruspexref05_Known.mk 0 (A8_Intu8.mk 0 0 0 0 0 0 0 0)) p0.v (A8_Intu8.mk 0 0 0 0 0 0 0 0) r1 r9) (S_haruspexlaw09_Ask.mk (S_haruspexref05_Known.mk 0 (A8_Intu8.mk 0 0 0 0 0 0 0 0)) r3 (A8_Intu8.mk 0 0 0 0 0 0 0 0) r1 y7))
def ze8(N:Nat)(p0:Int)(p1:Int):Option (S_api_Q×Int):=
bif (p1 == 0)then(
some ((S_api_Q.mk 0 0),2))
else(
(zgt N p0 p1).bind λr2=>
some (r2.1,r2.2))
theorem zpQ{N:Nat}{p0:Int}{p1:Int}{r:(S_api_Q×Int)}(h:ze8 N p0 p1=some r):Lx.Fn mC 70 [(dI p0),(dI p1)] (.tup [(.agg [(dI r.1.n),(dI r.1.d)]),(dI r.2)]):=by
 refine gnO ?_;unfold ze8 at h;refine wSM ?_;refine cBM h (λ_ h=>?_) λ_ h=>?_
 .obtain⟨r2,g3,h⟩:=bsM h;refine sSM ?_;refine EvL.fn (zmT g3) rfl rfl (.cons (.clo rfl rfl (Snps.get .nil) (Snps.get (.cons (.ptr rfl (qad rfl) (λk d d' h1 h2=>(Snps.get (.cons (.lit _) .nil)) k d d' (by rwa [qaO]at h1) h2)) (.cons (.ptr rfl (qad rfl) (λk d d' h1 h2=>(Snps.get (.cons (.lit _) .nil)) k d d' (by rwa [qaO]at h1) h2)) .nil)))) .nil) ?_;refine sSM ?_;exact rHM h
 exact rHM h
end Go.Dc
