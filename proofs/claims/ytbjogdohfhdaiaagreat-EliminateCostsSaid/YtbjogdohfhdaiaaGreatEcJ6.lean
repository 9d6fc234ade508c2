/-
 What r05_Right computes. Conditions: none.
-/
import Derived.Test.YtbjogdohfhdaiaaGreatEcJ1
import Derived.Test.YtbjogdohfhdaiaaGreatEcJ3
import Derived.Test.YtbjogdohfhdaiaaGreatEcJ2
set_option linter.unusedSimpArgs false
set_option linter.unusedVariables false
set_option maxRecDepth 100000
set_option maxHeartbeats 4000000
namespace Go.Dc
open Go Go.Mx Go.Lx Go.Proofs
def zcB(p0:S_api_Net):Nat->Int->Int->Option (Out Int Bool)
 | 0,_,_=>none
 | n+1,v3,v4=>(
bif (decide (v4<(p0.nodes.length:Int)))then(
(zaE p0.nodes v4).bind λx6=>
((bif (decide (x6.zaF<1))then(
some true)
else(
bif (decide (4<x6.zaF))then(
some true)
else(
(zeE x6.parents (p0.nodes.length:Int)).bind λr10=>
some (!r10))):Option Bool)).bind λv59=>
bif v59 then(
some (.ret false))
else(
zcB p0 n (w64 (v3 * x6.zaF)) (w64 (v4+1))))
else(
some (.go v3)))
def zc4(x28:(List Int))(p0:S_api_Net):Nat->Int->Int->Option (Out Int Bool)
 | 0,_,_=>none
 | n+1,v9,v10=>(
bif (decide (v10<(x28.length:Int)))then(
(((zaE x28 v10).bind λx32=>
bif (decide (x32<0))then(
some true)
else(
some (decide (p0.grain<x32))):Option Bool)).bind λv139=>
bif v139 then(
some (.ret false))
else(
(zaE x28 v10).bind λx36=>
zc4 x28 p0 n (w64 (v9+x36)) (w64 (v10+1))))
else(
some (.go v9)))
def zc8(x20:S_api_Node)(p0:S_api_Net):Nat->Int->Option (Out Unit Bool)
 | 0,_=>none
 | n+1,v8=>(
bif (decide (v8<(x20.rows.length:Int)))then(
(zaE x20.rows v8).bind λx28=>
bif ((x28.length:Int)== x20.zaF)then(
((zc4 x28 p0 ((x28.length:Int) - 0+2:Int).toNat 0 0:Option (Out Int Bool))).bind λo=>match o with
| .go v9=>(
bif (v9 == p0.grain)then(
zc8 x20 p0 n (w64 (v8+1)))
else(
some (.ret false)))
| .ret r=>some (.ret r))
else(
some (.ret false)))
else(
some (.go ())))
def zda(p0:S_api_Net):Nat->Int->Option (Out Unit Bool)
 | 0,_=>none
 | n+1,v6=>(
bif (decide (v6<(p0.nodes.length:Int)))then(
(zaE p0.nodes v6).bind λx20=>
(zba p0 v6).bind λr22=>
(ze2 r22).bind λr24=>
bif ((x20.rows.length:Int)== r24)then(
((zc8 x20 p0 ((x20.rows.length:Int) - 0+2:Int).toNat 0:Option (Out Unit Bool))).bind λo=>match o with
| .go _=>(
zda p0 n (w64 (v6+1)))
| .ret r=>some (.ret r))
else(
some (.ret false)))
else(
some (.go ())))
def zc1(p0:S_api_Net):Option Bool:=
((bif (decide (p0.grain<1))then(
some true)
else(
bif (decide (60<p0.grain))then(
some true)
else(
bif (decide ((p0.nodes.length:Int)<1))then(
some true)
else(
some (decide (8<(p0.nodes.length:Int)))))):Option Bool)).bind λv30=>
bif v30 then(
some false)
else(
((zcB p0 ((p0.nodes.length:Int) - 0+2:Int).toNat 1 0:Option (Out Int Bool))).bind λo=>match o with
| .go v3=>(
((bif (decide (1024<v3))then(
some true)
else(
(zbL p0).bind λr14=>
(zdt r14).bind λr16=>
some (!r16)):Option Bool)).bind λv71=>
bif v71 then(
some false)
else(
((zda p0 ((p0.nodes.length:Int) - 0+2:Int).toNat 0:Option (Out Unit Bool))).bind λo=>match o with
| .go _=>(
some true)
| .ret r=>some r))
| .ret r=>some r)
variable{p0:S_api_Net}
theorem zoV{r:Bool}(h:zc1 p0=some r):Lx.Fn mC 56 [(.agg [(dI p0.grain),(fzE false zaa p0.nodes)])] (dB r):=by
 refine gnO ?_;unfold zc1 at h;refine wSM ?_;obtain⟨o1,j1,h⟩:=bsM h;refine usM [1] 1 (λa:Bool=>([(30,(dB a))],[],[])) λT1 hT1=>?_
 refine EvL.jn T1 _ (bJM j1 hT1) ?_;rintro v30 rfl;refine wTM hT1 ?_;refine cBM h (λ_ h=>?_) λ_ h=>?_
 .obtain⟨o5,j5,h⟩:=bsM h;obtain⟨T5,hT5⟩:=zcC hT1 λa:Int=>uKM (T1 v30) [1] [(3,(dI a))] [] []
  refine EvL.jn T5 (λa=>o5=.go a) ?_ ?_
  .refine wSM ?_;obtain⟨T8,hT8⟩:=zcC hT1 λa:(Int×Int)=>uKM (T1 v30) [1] [(3,(dI a.1)),(4,(dI a.2))] [] []
   refine rdM hT8 (λn a=>zcB p0 n a.1 a.2=some o5) (1,0) j5 ?_;rintro n ⟨v3,v4⟩ j5;simp only[zcB]at j5;refine wTM hT8 ?_;refine cBM j5 (λ_ j5=>?_) λ_ j5=>?_
   .exact zk6 j5 hT5
   obtain⟨x6,g7,j5⟩:=bsM j5;refine sXM (anM @zak (zaq (n:=3) (e:=zaa) rfl g7)) ?_;obtain⟨o9,j9,j5⟩:=bsM j5;obtain⟨T9,hT9⟩:=zcC hT8 λa:Bool=>uDM (T8 (v3,v4)) [] [(5,(.ptr 1 0)),(59,(dB a))] [] [.cells [(dI x6.zaF),(fzE false (eI .i64) x6.parents),(fzE false (eL (eI .i64)) x6.rows)]]
   refine EvL.jn T9 (λa=>a=o9) ?_ ?_
   .refine wSM ?_;refine cBM j9 (λ_ j9=>?_) λ_ j9=>?_
    .refine cBM j9 (λ_ j9=>?_) λ_ j9=>?_
     .obtain⟨r10,g11,j9⟩:=bsM j9;refine sSM ?_;refine fCM (zmh g11) ?_;exact zch j9 hT9
     refine EvL.skip rfl ?_;refine sSM ?_;exact zch j9 hT9
    refine EvL.skip rfl ?_;refine sSM ?_;exact zch j9 hT9
   rintro v59 rfl;refine wTM hT9 ?_;refine cBM j5 (λ_ j5=>?_) λ_ j5=>?_
   .exact zcr hT8 ((w64 (v3 * x6.zaF)),(w64 (v4+1))) j5
   obtain rfl:=qae j5;exact rHM h
  rintro v3 rfl;dsimp only at h;refine wTM hT5 ?_;obtain⟨o10,j10,h⟩:=bsM h;obtain⟨T10,hT10⟩:=zcC hT5 λa:Bool=>uKM (T5 v3) [1] [(71,(dB a))] [] []
  refine EvL.jn T10 (λa=>a=o10) ?_ ?_
  .refine wSM ?_;refine cBM j10 (λ_ j10=>?_) λ_ j10=>?_
   .obtain⟨r14,g15,j10⟩:=bsM j10;refine sSM ?_;refine EvL.fnT (r:=(.sl 2 0 1 r14.length none r14.length)) (L':=[.cells [(dI p0.grain),(fzE false zaa p0.nodes)],.gone,.grow 1 (r14.map ((eI .u64).c true))]) (zfS g15) rfl rfl (.cons (Mzs.agg (.cons (.lit _) (.cons (zdX _ _ (λh=>by cases h<;>contradiction)) .nil))) .nil) ⟨⟨qds,(zcz _ _),qds⟩,qds⟩ ⟨qds,qds⟩ ⟨qds,(zmS (eI .u64) (λ_=>⟨qds,qds⟩) _),qds⟩ rfl rfl ?_;obtain⟨r16,g17,j10⟩:=bsM j10;refine sSM ?_;refine fCM (zlb g17) ?_;exact zch j10 hT10
   refine EvL.skip rfl ?_;refine sSM ?_;refine EvL.skip rfl ?_;refine sSM ?_;exact zch j10 hT10
  rintro v71 rfl;refine wTM hT10 ?_;refine cBM h (λ_ h=>?_) λ_ h=>?_
  .obtain⟨o161,j161,h⟩:=bsM h;refine usM [] 0 (λa:Unit=>([],[],[])) λT161 hT161=>?_
   refine EvL.jn T161 (λa=>o161=.go a) ?_ ?_
   .refine wSM ?_;obtain⟨T262,hT262⟩:=zcC hT5 λa:Int=>uKM (T5 v3) [1] [(6,(dI a))] [] []
    refine rdM hT262 (λn a=>zda p0 n a=some o161) 0 j161 ?_;rintro n v6 j161;simp only[zda]at j161;refine wTM hT262 ?_;refine cBM j161 (λ_ j161=>?_) λ_ j161=>?_
    .exact zk6 j161 hT161
    obtain⟨x20,g21,r22,g23,j161⟩:=zfo j161;refine sXM (anM @zak (zaq (n:=3) (e:=zaa) rfl g21)) ?_;refine fCM (zfq g23) ?_;obtain⟨r24,g25,j161⟩:=bsM j161;refine sSM ?_;refine fCM (zkQ g25) ?_;refine cBM j161 (λ_ j161=>?_) λ_ j161=>?_
    .obtain rfl:=qae j161;exact rHM h
    obtain⟨o287,j287,j161⟩:=bsM j161;obtain⟨T287,hT287⟩:=zcC hT262 λa:Unit=>uDM (T262 v6) [] [] [] []
    refine EvL.jn T287 (λa=>o287=.go a) ?_ ?_
    .refine wSM ?_;obtain⟨T304,hT304⟩:=zcC hT262 λa:Int=>uDM (T262 v6) [] [(7,(.ptr 1 0)),(8,(dI a))] [] [.cells [(dI x20.zaF),(fzE false (eI .i64) x20.parents),(fzE false (eL (eI .i64)) x20.rows)]]
     refine rdM hT304 (λn a=>zc8 x20 p0 n a=some o287) 0 j287 ?_;rintro n v8 j287;simp only[zc8]at j287;refine wTM hT304 ?_;refine cBM j287 (λ_ j287=>?_) λ_ j287=>?_
     .exact zk6 j287 hT287
     obtain⟨x28,g29,j287⟩:=bsM j287;refine sXM (zaq (n:=1) (e:=(eL (eI .i64))) rfl g29) ?_;refine cBM j287 (λ_ j287=>?_) λ_ j287=>?_
     .obtain rfl:=qae j287;obtain rfl:=qae j161;exact rHM h
     obtain⟨o308,j308,j287⟩:=bsM j287;obtain⟨T308,hT308⟩:=zcC hT304 λa:Int=>uDM (T304 v8) [] [(9,(dI a))] [] []
     refine EvL.jn T308 (λa=>o308=.go a) ?_ ?_
     .refine wSM ?_;obtain⟨T311,hT311⟩:=zcC hT304 λa:(Int×Int)=>uDM (T304 v8) [] [(9,(dI a.1)),(10,(dI a.2))] [] []
      refine rdM hT311 (λn a=>zc4 x28 p0 n a.1 a.2=some o308) (0,0) j308 ?_;rintro n ⟨v9,v10⟩ j308;simp only[zc4]at j308;rw[congrFun hT311 (v9,v10)];refine zad ?_;refine sXM (zaq (n:=1) (e:=(eL (eI .i64))) rfl g29) ?_;refine cBM j308 (λ_ j308=>?_) λ_ j308=>?_
      .exact zk6 j308 hT308
      obtain⟨o312,j312,j308⟩:=bsM j308;obtain⟨T312,hT312⟩:=zcC hT311 λa:Bool=>uDM (T311 (v9,v10)) [] [(139,(dB a))] [] []
      refine EvL.jn T312 (λa=>a=o312) ?_ ?_
      .refine zad ?_;obtain⟨x32,g33,j312⟩:=bsM j312;refine sXM (anM (zaq (n:=1) (e:=(eL (eI .i64))) rfl g29) (ixM g33)) ?_;refine cBM j312 (λ_ j312=>?_) λ_ j312=>?_
       .refine sXM (anM (zaq (n:=1) (e:=(eL (eI .i64))) rfl g29) (ixM g33)) ?_;exact zch j312 hT312
       exact zch j312 hT312
      rintro v139 rfl;refine wTM hT312 ?_;refine cBM j308 (λ_ j308=>?_) λ_ j308=>?_
      .obtain⟨x36,g37,j308⟩:=bsM j308;refine sXM (anM (zaq (n:=1) (e:=(eL (eI .i64))) rfl g29) (ixM g37)) ?_;exact zcr hT311 ((w64 (v9+x36)),(w64 (v10+1))) j308
      obtain rfl:=qae j308;obtain rfl:=qae j287;obtain rfl:=qae j161;exact rHM h
     rintro v9 rfl;dsimp only at j287;refine wTM hT308 ?_;refine cBM j287 (λ_ j287=>?_) λ_ j287=>?_
     .obtain rfl:=qae j287;obtain rfl:=qae j161;exact rHM h
     exact zcr hT304 (w64 (v8+1)) j287
    rintro⟨⟩ rfl;dsimp only at j161;refine wTM hT287 ?_;exact zcr hT262 (w64 (v6+1)) j161
   rintro⟨⟩ rfl;dsimp only at h;refine wTM hT161 ?_;exact rHM h
  exact rHM h
 exact rHM h
def zfi(p0:S_api_Net)(p1:(List Int)):Option Int:=
(zc1 p0).bind λr1=>
bif r1 then(
(zce p0 p1).bind λr4=>
bif r4 then(
some 0)
else(
some 2))
else(
some 50)
theorem zof{p1:(List Int)}{r:Int}(h:zfi p0 p1=some r):Lx.Fn mC 23 [(.agg [(dI p0.grain),(fzE false zaa p0.nodes)]),(fzE false (eI .i64) p1)] (dI r):=by
 refine gnO ?_;unfold zfi at h;refine zad ?_;obtain⟨r1,g2,h⟩:=bsM h;refine sSM ?_;refine fCM (zoV g2) ?_;refine cBM h (λ_ h=>?_) λ_ h=>?_
 .exact rHM h
 obtain⟨r4,g5,h⟩:=bsM h;refine sSM ?_;refine fCM (zkt g5) ?_;refine cBM h (λ_ h=>?_) λ_ h=>?_
 .exact rHM h
 exact rHM h
def zcc(p0:S_api_Net)(p1:(List Int))(p2:Int)(p3:(List Int)):Option Int:=
(zfi p0 p1).bind λr1=>
bif (r1 == 0)then(
((bif (decide (p2<0))then(
some true)
else(
bif (decide ((p0.nodes.length:Int)<=p2))then(
some true)
else(
(zcx p3 (p0.nodes.length:Int) p2).bind λr6=>
some (!r6))):Option Bool)).bind λv33=>
bif v33 then(
some 2)
else(
some 0))
else(
some r1)
theorem zl3{p1:(List Int)}{p2:Int}{p3:(List Int)}{r:Int}(h:zcc p0 p1 p2 p3=some r):Lx.Fn mC 16 [(.agg [(dI p0.grain),(fzE false zaa p0.nodes)]),(fzE false (eI .i64) p1),(dI p2),(fzE false (eI .i64) p3)] (dI r):=by
 refine gnO ?_;unfold zcc at h;refine zad ?_;obtain⟨r1,g2,h⟩:=bsM h;refine sSM ?_;refine fCM (zof g2) ?_;refine cBM h (λ_ h=>?_) λ_ h=>?_
 .exact rHM h
 obtain⟨o1,j1,h⟩:=bsM h;refine usM [] 0 (λa:Bool=>([(33,(dB a))],[],[])) λT1 hT1=>?_
 refine EvL.jn T1 (λa=>a=o1) ?_ ?_
 .refine wSM ?_;refine cBM j1 (λ_ j1=>?_) λ_ j1=>?_
  .refine cBM j1 (λ_ j1=>?_) λ_ j1=>?_
   .obtain⟨r6,g7,j1⟩:=bsM j1;refine sSM ?_;refine fCM (zif g7) ?_;exact zch j1 hT1
   refine EvL.skip rfl ?_;refine sSM ?_;exact zch j1 hT1
  refine EvL.skip rfl ?_;refine sSM ?_;exact zch j1 hT1
 rintro v33 rfl;refine wTM hT1 ?_;refine cBM h (λ_ h=>?_) λ_ h=>?_
 .exact rHM h
 exact rHM h
end Go.Dc
