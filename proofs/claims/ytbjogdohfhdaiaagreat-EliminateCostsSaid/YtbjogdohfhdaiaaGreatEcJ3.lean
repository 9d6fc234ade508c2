/-
 net.closure: what can be reached, by calls that come back to themselves. Conditions: none.
-/
import Derived.Test.YtbjogdohfhdaiaaGreatEcDm
import Derived.Test.YtbjogdohfhdaiaaGreatEcLy17
import Derived.Test.YtbjogdohfhdaiaaGreatEcLy18
set_option linter.unusedSimpArgs false
set_option linter.unusedVariables false
set_option maxRecDepth 100000
set_option maxHeartbeats 4000000
namespace Go.Dc
open Go Go.Mx Go.Lx Go.Proofs
def zbU(p0:(List Int))(p1:Int):Nat->Int->Option (Out Unit Bool)
 | 0,_=>none
 | n+1,v5=>(
bif (decide (v5<(p0.length:Int)))then(
(((zaE p0 v5).bind λx2=>
bif (decide (x2<0))then(
some true)
else(
bif (decide (p1<=x2))then(
some true)
else(
bif (decide (0<v5))then(
(zaE p0 (w64 (v5 - 1))).bind λx7=>
some (decide (x2<=x7)))
else(
some false))):Option Bool)).bind λv40=>
bif v40 then(
some (.ret false))
else(
zbU p0 p1 n (w64 (v5+1))))
else(
some (.go ())))
def zeE(p0:(List Int))(p1:Int):Option Bool:=
((zbU p0 p1 ((p0.length:Int) - 0+2:Int).toNat 0:Option (Out Unit Bool))).bind λo=>match o with
| .go _=>(
some true)
| .ret r=>some r
variable{p0:(List Int)}
theorem zmh{p1:Int}{r:Bool}(h:zeE p0 p1=some r):Lx.Fn mC 83 [(fzE false (eI .i64) p0),(dI p1)] (dB r):=by
 refine gnO ?_;unfold zeE at h;refine wSM ?_;obtain⟨o4,j4,h⟩:=bsM h;refine usM [] 0 (λa:Unit=>([],[],[])) λT4 hT4=>?_
 refine EvL.jn T4 (λa=>o4=.go a) ?_ ?_
 .refine wSM ?_;refine usM [0,1] 0 (λa:Int=>([(5,(dI a))],[],[])) λT7 hT7=>?_
  refine rdM hT7 (λn a=>zbU p0 p1 n a=some o4) 0 j4 ?_;rintro n v5 j4;simp only[zbU]at j4;refine wTM hT7 ?_;refine cBM j4 (λ_ j4=>?_) λ_ j4=>?_
  .exact zk6 j4 hT4
  obtain⟨o8,j8,j4⟩:=bsM j4;obtain⟨T8,hT8⟩:=zcC hT7 λa:Bool=>uDM (T7 v5) [] [(40,(dB a))] [] []
  refine EvL.jn T8 (λa=>a=o8) ?_ ?_
  .refine zad ?_;obtain⟨x2,g3,j8⟩:=bsM j8;refine sXM (ixM g3) ?_;refine cBM j8 (λ_ j8=>?_) λ_ j8=>?_
   .refine sXM (ixM g3) ?_;refine cBM j8 (λ_ j8=>?_) λ_ j8=>?_
    .refine cBM j8 (λ_ j8=>?_) λ_ j8=>?_
     .exact zch j8 hT8
     obtain⟨x7,g8,j8⟩:=bsM j8;refine sXM (anM (ixM g3) (ixM g8)) ?_;exact zch j8 hT8
    exact zch j8 hT8
   exact zch j8 hT8
  rintro v40 rfl;refine wTM hT8 ?_;refine cBM j4 (λ_ j4=>?_) λ_ j4=>?_
  .exact zcr hT7 (w64 (v5+1)) j4
  obtain rfl:=qae j4;exact rHM h
 rintro⟨⟩ rfl;dsimp only at h;refine wTM hT4 ?_;exact rHM h
def zes(p0:Int)(p1:Int):Option Bool:=
(zku .u64 p0 (IntKind.u64.wrap p1)).bind λq1=>
some ((zkZ .u64 q1 1)== 1)
theorem zgA{p0:Int}{p1:Int}{r:Bool}(h:zes p0 p1=some r):Lx.Fn mC 54 [(dU p0),(dI p1)] (dB r):=by
 refine gnO ?_;unfold zes at h;refine zad ?_;obtain⟨q1,g2,h⟩:=bsM h;refine sXM (anM ((zbA g2).1) ((zbA g2).2)) ?_;exact rHM h
def zfd(p0:(List Int)):Nat->Int->Int->Option Int
 | 0,_,_=>none
 | n+1,v1',v6=>(
bif (decide (v6<(p0.length:Int)))then(
(zes v1' v6).bind λr3=>
((bif r3 then(
(zaE p0 v6).bind λx6=>
some (orI .u64 v1' x6))
else(
some v1'):Option Int)).bind λv1''=>
zfd p0 n v1'' (w64 (v6+1)))
else(
some v1'))
def zfg(p0:(List Int)):Nat->Int->Int->Option Int
 | 0,_,_=>none
 | n+1,v1,v5=>(
bif (decide (v5<(p0.length:Int)))then(
((zfd p0 ((p0.length:Int) - 0+2:Int).toNat v1 0:Option Int)).bind λv1'=>
zfg p0 n v1' (w64 (v5+1)))
else(
some v1))
def zhH(p0:(List Int))(p1:Int):Option Int:=
((zfg p0 ((p0.length:Int) - 0+2:Int).toNat p1 0:Option Int)).bind λv1=>
some v1
theorem zxl{p1:Int}{r:Int}(h:zhH p0 p1=some r):Lx.Fn mC 85 [(fzE false (eI .u64) p0),(dU p1)] (dU r):=by
 refine gnO ?_;unfold zhH at h;refine wSM ?_;obtain⟨o25,j25,h⟩:=bsM h;refine usM [] 0 (λa:Int=>([(1,(dU a))],[],[])) λT25 hT25=>?_
 refine EvL.jn T25 (λa=>a=o25) ?_ ?_
 .refine wSM ?_;refine usM [0] 0 (λa:(Int×Int)=>([(1,(dU a.1)),(5,(dI a.2))],[],[])) λT42 hT42=>?_
  refine rdM hT42 (λn a=>zfg p0 n a.1 a.2=some o25) (p1,0) j25 ?_;rintro n ⟨v1,v5⟩ j25;simp only[zfg]at j25;refine wTM hT42 ?_;refine cBM j25 (λ_ j25=>?_) λ_ j25=>?_
  .exact zch j25 hT25
  obtain⟨o46,j46,j25⟩:=bsM j25;obtain⟨T46,hT46⟩:=zcC hT42 λa:Int=>uDM (T42 (v1,v5)) [1] [(1,(dU a))] [] []
  refine EvL.jn T46 (λa=>a=o46) ?_ ?_
  .refine wSM ?_;obtain⟨T49,hT49⟩:=zcC hT42 λa:(Int×Int)=>uDM (T42 (v1,v5)) [1] [(1,(dU a.1)),(6,(dI a.2))] [] []
   refine rdM hT49 (λn a=>zfd p0 n a.1 a.2=some o46) (v1,0) j46 ?_;rintro n ⟨v1',v6⟩ j46;simp only[zfd]at j46;refine wTM hT49 ?_;refine cBM j46 (λ_ j46=>?_) λ_ j46=>?_
   .exact zch j46 hT46
   obtain⟨r3,g4,j46⟩:=bsM j46;refine sSM ?_;refine fCM (zgA g4) ?_;obtain⟨o50,j50,j46⟩:=bsM j46;obtain⟨T50,hT50⟩:=zcC hT49 λa:Int=>uDM (T49 (v1',v6)) [1] [(1,(dU a))] [] []
   refine EvL.jn T50 (λa=>a=o50) ?_ ?_
   .refine wSM ?_;refine cBM j50 (λ_ j50=>?_) λ_ j50=>?_
    .exact zch j50 hT50
    obtain⟨x6,g7,j50⟩:=bsM j50;refine sXM (zaq (n:=1) (e:=(eI .u64)) rfl g7) ?_;exact zch j50 hT50
   rintro v1'' rfl;refine wTM hT50 ?_;exact zcr hT49 (v1'',(w64 (v6+1))) j46
  rintro v1' rfl;refine wTM hT46 ?_;exact zcr hT42 (v1',(w64 (v5+1))) j25
 rintro v1 rfl;refine wTM hT25 ?_;exact rHM h
def zcf(p0:(List Int)):Nat->Int->Option (Out Unit Bool)
 | 0,_=>none
 | n+1,v3=>(
bif (decide (v3<(p0.length:Int)))then(
(zaE p0 v3).bind λx2=>
(zhH p0 x2).bind λr4=>
(zes r4 v3).bind λr6=>
bif r6 then(
some (.ret false))
else(
zcf p0 n (w64 (v3+1))))
else(
some (.go ())))
def zdt(p0:(List Int)):Option Bool:=
((zcf p0 ((p0.length:Int) - 0+2:Int).toNat 0:Option (Out Unit Bool))).bind λo=>match o with
| .go _=>(
some true)
| .ret r=>some r
theorem zlb{r:Bool}(h:zdt p0=some r):Lx.Fn mC 84 [(fzE false (eI .u64) p0)] (dB r):=by
 refine gnO ?_;unfold zdt at h;refine wSM ?_;obtain⟨o1,j1,h⟩:=bsM h;refine usM [] 0 (λa:Unit=>([],[],[])) λT1 hT1=>?_
 refine EvL.jn T1 (λa=>o1=.go a) ?_ ?_
 .refine wSM ?_;refine usM [0] 0 (λa:Int=>([(3,(dI a))],[],[])) λT2 hT2=>?_
  refine rdM hT2 (λn a=>zcf p0 n a=some o1) 0 j1 ?_;rintro n v3 j1;simp only[zcf]at j1;refine wTM hT2 ?_;refine cBM j1 (λ_ j1=>?_) λ_ j1=>?_
  .exact zk6 j1 hT1
  obtain⟨x2,g3,r4,g5,j1⟩:=zfo j1;refine sXM (zaq (n:=1) (e:=(eI .u64)) rfl g3) ?_;refine fCM (zxl g5) ?_;obtain⟨r6,g7,j1⟩:=bsM j1;refine sSM ?_;refine fCM (zgA g7) ?_;refine cBM j1 (λ_ j1=>?_) λ_ j1=>?_
  .exact zcr hT2 (w64 (v3+1)) j1
  obtain rfl:=qae j1;exact rHM h
 rintro⟨⟩ rfl;dsimp only at h;refine wTM hT1 ?_;exact rHM h
def zbY(p0:S_api_Net)(v4:Int):Nat->Int->Int->Option Int
 | 0,_,_=>none
 | n+1,v5,v6=>(
(zaE p0.nodes v4).bind λx2=>
bif (decide (v6<(x2.parents.length:Int)))then(
(zaE x2.parents v6).bind λx5=>
(zpr .u64 1 (IntKind.u64.wrap x5)).bind λq7=>
zbY p0 v4 n (orI .u64 v5 q7) (w64 (v6+1)))
else(
some v5))
def zbW(p0:S_api_Net):Nat->Int->(List Int)->Option (List Int)
 | 0,_,_=>none
 | n+1,v4,l1=>(
bif (decide (v4<(p0.nodes.length:Int)))then(
((zbY p0 v4 ((((zaE p0.nodes v4).getD default).parents.length:Int) - 0+2:Int).toNat 0 0:Option Int)).bind λv5=>
(zcX 8 l1 [v5]).bind λy11=>
zbW p0 n (w64 (v4+1)) y11)
else(
some l1))
def zbL(p0:S_api_Net):Option (List Int):=
((zbW p0 ((p0.nodes.length:Int) - 0+2:Int).toNat 0 []:Option (List Int))).bind λl1=>
some l1
variable{r:(List Int)}
theorem zfS{p0:S_api_Net}(h:zbL p0=some r):Lx.FnT mC 53 [(.agg [(dI p0.grain),(fzE false zaa p0.nodes)])] [(.sl 1 0 1 r.length none r.length)] [.gone,.grow 1 (r.map ((eI .u64).c true))]:=by
 refine zGb (by conv=>lhs; cbv) ?_;unfold zbL at h;refine wSM ?_;obtain⟨o9,j9,h⟩:=bsM h;refine usM [] 1 (λa:(List Int)=>([(3,(.sl 1 0 1 a.length none a.length))],[(0,.gone)],[.grow 1 (a.map ((eI .u64).c true))])) λT9 hT9=>?_
 refine EvL.jn T9 (λa=>a=o9) ?_ ?_
 .refine wSM ?_;refine usM [1] 1 (λa:(Int×(List Int))=>([(3,(.sl 1 0 1 a.2.length none a.2.length)),(4,(dI a.1))],[],[.grow 1 (a.2.map ((eI .u64).c true))])) λT16 hT16=>?_
  refine EvL.zgd (za8.ghost (n:=1) (k:=3) (by decide) rfl) ?_;refine EvL.rounds (α:=(Int×(List Int))) T16 (λn a=>zbW p0 n a.1 a.2=some o9) ((p0.nodes.length:Int) - 0+2:Int).toNat (0,[]) (by rw[hT16]; exact wm0 [.k,.k] ⟨MB.cs ⟨qds,qds,qds⟩,⟨MB.gs (eI .u64) true [],qds⟩⟩) j9 (λ_ h=>nomatch (show(none:Option (List Int))=some o9 from h)) ?_;rintro n ⟨v4,l1⟩ j9;simp only[zbW]at j9;refine wTM hT16 ?_;refine cBM j9 (λ_ j9=>?_) λ_ j9=>?_
  .exact zch j9 hT9
  obtain⟨o17,j17,j9⟩:=bsM j9;obtain⟨T17,hT17⟩:=zcC hT16 λa:Int=>uDM (T16 (v4,l1)) [] [(5,(dU a))] [] []
  refine EvL.jn T17 (λa=>a=o17) ?_ ?_
  .refine wSM ?_;obtain⟨T18,hT18⟩:=zcC hT16 λa:(Int×Int)=>uDM (T16 (v4,l1)) [] [(5,(dU a.1)),(6,(dI a.2))] [] []
   refine EvL.rounds (α:=(Int×Int)) T18 (λn a=>zbY p0 v4 n a.1 a.2=some o17) ((((zaE p0.nodes v4).getD default).parents.length:Int) - 0+2:Int).toNat (0,0) (by rw[hT18]; exact wAM) j17 (λ_ h=>nomatch (show(none:Option Int)=some o17 from h)) ?_;rintro n ⟨v5,v6⟩ j17;simp only[zbY]at j17;refine wTM hT18 ?_;obtain⟨x2,g3,j17⟩:=bsM j17;refine sXM (anM @zak (zaq (n:=3) (e:=zaa) rfl g3)) ?_;refine cBM j17 (λ_ j17=>?_) λ_ j17=>?_
   .exact zch j17 hT17
   obtain⟨x5,g6,q7,g8,j17⟩:=zfo j17;refine sXM (anM @zak (anM (zaq (n:=3) (e:=zaa) rfl g3) (anM (ixM g6) (anM ((zby g8).1) ((zby g8).2))))) ?_;exact zcr hT18 ((orI .u64 v5 q7),(w64 (v6+1))) j17
  rintro v5 rfl;refine wTM hT17 ?_;obtain⟨y11,g12,j9⟩:=bsM j9;refine sXM (anM (zbz g12) (anM (plM g12) (puM g12))) ?_;exact zcr hT16 ((w64 (v4+1)),y11) j9
 rintro l1 rfl;refine wTM hT9 ?_;obtain rfl:=qae h;exact zAb.ret (⟨43,[(2,(.sl 1 0 1 l1.length none l1.length))],[.gone,.grow 1 (l1.map ((eI .u64).c true))]⟩) (wAM) rfl rfl
def zct(p1:S_api_Net)(p0:S_haruspexref05_Known):Nat->Int->(List Int)->Option (List Int)
 | 0,_,_=>none
 | n+1,v6,l2=>(
bif (decide (v6<(p1.nodes.length:Int)))then(
(zku .u8 p0.which (IntKind.u64.wrap v6)).bind λq2=>
((bif ((zkZ .u8 q2 1)== 1)then(
(zaE [p0.v.a0,p0.v.a1,p0.v.a2,p0.v.a3,p0.v.a4,p0.v.a5,p0.v.a6,p0.v.a7] v6).bind λx5=>
(zaE p1.nodes v6).bind λx7=>
(zrc (w64 x5) x7.zaF).bind λq9=>
some q9)
else(
some (-1)):Option Int)).bind λv7=>
(zcX 8 l2 [v7]).bind λy11=>
zct p1 p0 n (w64 (v6+1)) y11)
else(
some l2))
def zcT(p0:S_haruspexref05_Known)(p1:S_api_Net):Option (List Int):=
((zct p1 p0 ((p1.nodes.length:Int) - 0+2:Int).toNat 0 []:Option (List Int))).bind λl2=>
some l2
theorem zkx{p0:S_haruspexref05_Known}{p1:S_api_Net}(h:zcT p0 p1=some r):Lx.Fn mC 25 [(.agg [(dU8 p0.which),(dU8 p0.v.a0),(dU8 p0.v.a1),(dU8 p0.v.a2),(dU8 p0.v.a3),(dU8 p0.v.a4),(dU8 p0.v.a5),(dU8 p0.v.a6),(dU8 p0.v.a7)]),(.agg [(dI p1.grain),(fzE false zaa p1.nodes)])] (fzE true (eI .i64) r):=by
 refine gnO ?_;unfold zcT at h;refine wSM ?_;obtain⟨o5,j5,h⟩:=bsM h;refine usM [] 2 (λa:(List Int)=>([(5,(.sl 2 0 1 a.length none a.length))],[(0,.gone),(1,.gone)],[.grow 1 (a.map ((eI .i64).c true))])) λT5 hT5=>?_
 refine EvL.jn T5 (λa=>a=o5) ?_ ?_
 .refine wSM ?_;refine usM [2,3] 2 (λa:(Int×(List Int))=>([(5,(.sl 2 0 1 a.2.length none a.2.length)),(6,(dI a.1))],[],[.grow 1 (a.2.map ((eI .i64).c true))])) λT9 hT9=>?_
  refine EvL.zgd (za8.ghost (n:=1) (k:=5) (by decide) rfl) ?_;refine EvL.rounds (α:=(Int×(List Int))) T9 (λn a=>zct p1 p0 n a.1 a.2=some o5) ((p1.nodes.length:Int) - 0+2:Int).toNat (0,[]) (by rw[hT9]; exact wm0 [.k,.k,.k] ⟨MB.cs ⟨qds,qds,qds,qds,qds,qds,qds,qds,qds,qds⟩,⟨MB.cs ⟨qds,qds,qds⟩,⟨MB.gs (eI .i64) true [],qds⟩⟩⟩) j5 (λ_ h=>nomatch (show(none:Option (List Int))=some o5 from h)) ?_;rintro n ⟨v6,l2⟩ j5;simp only[zct]at j5;refine wTM hT9 ?_;refine cBM j5 (λ_ j5=>?_) λ_ j5=>?_
  .exact zch j5 hT5
  obtain⟨q2,g3,j5⟩:=bsM j5;refine sXM (anM ((zbA g3).1) ((zbA g3).2)) ?_;obtain⟨o10,j10,j5⟩:=bsM j5;obtain⟨T10,hT10⟩:=zcC hT9 λa:Int=>uDM (T9 (v6,l2)) [] [(7,(dI a))] [] []
  refine EvL.jn T10 (λa=>a=o10) ?_ ?_
  .refine wSM ?_;refine cBM j10 (λ_ j10=>?_) λ_ j10=>?_
   .exact zch j10 hT10
   obtain⟨x5,g6,x7,g8,q9,g10,j10⟩:=zhx j10;refine sXM (anM @zak (anM (zaZ g6) (anM (show v6<((8:Nat):Int)from zd6 g6) (anM @qca (anM (show [(dU8 p0.which),(dU8 p0.v.a0),(dU8 p0.v.a1),(dU8 p0.v.a2),(dU8 p0.v.a3),(dU8 p0.v.a4),(dU8 p0.v.a5),(dU8 p0.v.a6),(dU8 p0.v.a7)][1+v6.toNat]? = some (.lit (.int .u8 x5))from zBu (a:=1) (i:=v6) g6 (λx=>(.lit (.int .u8 x):D)) rfl) (anM (zaq (n:=3) (e:=zaa) rfl g8) (anM (zjM g10) (ziJ g10)))))))) ?_;exact zch j10 hT10
  rintro v7 rfl;refine wTM hT10 ?_;obtain⟨y11,g12,j5⟩:=bsM j5;refine sXM (anM (zbz g12) (anM (plM g12) (piM g12))) ?_;exact zcr hT9 ((w64 (v6+1)),y11) j5
 rintro l2 rfl;refine wTM hT5 ?_;exact rHM h
def zel(q:S_eliminate_query)(list:List S_api_Factor)(order:List Int):Option (S_eliminate_query×List S_api_Factor×List Int):=some (q,list,order)
theorem zjD{α:Type}{L:List LB}{F:Nat->Bool}{β:Nat}{t2 t:Bool}(e:En α)(x:α)(hF:F β=true)(hL:L[β]? = some (.cells (e.c t x)))(h:t2=true->t=true):Mz L F false (.ptr β 0) (.fptr t2 (e.c t2 x)):=
 .ptr hF hL (by rw[e.len,e.len]; omega) λk d d' h1 h2=>e.mz x (by simpa using h) k d d' (by rwa [qaR]at h1) h2
theorem zhP{q:S_eliminate_query}{list:List S_api_Factor}{order:List Int}{r:S_eliminate_query×List S_api_Factor×List Int}(h:zel q list order=some r):
  FnT mC 52 [.agg (zas.c false q),fzE false zab list,fzE false (eI .i64) order]
   [.clo 78 [] [.fptr false ((eL (eI .i64)).c false r.2.2),.fptr false (zas.c false r.1),.ptr 1 0]] [.gone,.cells [fzE false zab r.2.1]]:=by
 cases h;refine zGb (by conv=>lhs; cbv) ?_;refine zad ?_;refine sXM @zbw ?_;exact zAb.ret ⟨8,[(6,.clo 78 [] [.fptr false ((eL (eI .i64)).c false order),.fptr false (zas.c false q),.ptr 1 0])],[.gone,.cells [fzE false zab list]]⟩
  (za8.m0 [.f,.k,.f] rfl (mx rfl (Mo.clo rfl rfl (Mos.get .nil) (Mos.get (.cons (.fr (zjD (t:=false) (eL (eI .i64)) order rfl rfl (λh=>h))) (.cons (.fr (zjD (t:=false) zas q rfl rfl (λh=>h))) (.cons (.same rfl) .nil))))) trivial) ⟨rfl,⟨MB.cs ⟨qds,qds⟩,qds⟩⟩) rfl rfl
def zfp:Option S_api_Factor:=
some (S_api_Factor.mk [] [] [1])
theorem zmn{r:S_api_Factor}(h:zfp=some r):Lx.Fn mC 68 [] (.agg [(fzE true (eI .i64) r.vars),(fzE true (eI .i64) r.zah),(fzE true (eI .i64) r.w)]):=by
 refine gnO ?_;unfold zfp at h;refine wSM ?_;exact rHM h
def zaY(p0:(List Int))(p1:Int)(p2:Int):Nat->Int->Int->Option (Out Unit Bool)
 | 0,_,_=>none
 | n+1,v7,v8=>(
bif (decide (v8<(p0.length:Int)))then(
(((zaE p0 v8).bind λx2=>
bif (decide (x2<0))then(
some true)
else(
bif (decide (p1<=x2))then(
some true)
else(
bif (x2 == p2)then(
some true)
else(
(zes v7 x2).bind λr7=>
some r7))):Option Bool)).bind λv43=>
bif v43 then(
some (.ret false))
else(
(zaE p0 v8).bind λx10=>
(zpr .u64 1 (IntKind.u64.wrap x10)).bind λq12=>
zaY p0 p1 p2 n (orI .u64 v7 q12) (w64 (v8+1))))
else(
some (.go ())))
def zcx(p0:(List Int))(p1:Int)(p2:Int):Option Bool:=
((zaY p0 p1 p2 ((p0.length:Int) - 0+2:Int).toNat 0 0:Option (Out Unit Bool))).bind λo=>match o with
| .go _=>(
bif (decide (0<=p2))then(
some ((p0.length:Int)==(w64 (p1 - 1))))
else(
some ((p0.length:Int)== p1)))
| .ret r=>some r
theorem zif{p1:Int}{p2:Int}{r:Bool}(h:zcx p0 p1 p2=some r):Lx.Fn mC 44 [(fzE false (eI .i64) p0),(dI p1),(dI p2)] (dB r):=by
 refine gnO ?_;unfold zcx at h;refine wSM ?_;obtain⟨o4,j4,h⟩:=bsM h;refine usM [0,1,2] 0 (λa:Unit=>([],[],[])) λT4 hT4=>?_
 refine EvL.jn T4 (λa=>o4=.go a) ?_ ?_
 .refine wSM ?_;refine usM [0,1,2] 0 (λa:(Int×Int)=>([(7,(dU a.1)),(8,(dI a.2))],[],[])) λT7 hT7=>?_
  refine rdM hT7 (λn a=>zaY p0 p1 p2 n a.1 a.2=some o4) (0,0) j4 ?_;rintro n ⟨v7,v8⟩ j4;simp only[zaY]at j4;refine wTM hT7 ?_;refine cBM j4 (λ_ j4=>?_) λ_ j4=>?_
  .exact zk6 j4 hT4
  obtain⟨o8,j8,j4⟩:=bsM j4;obtain⟨T8,hT8⟩:=zcC hT7 λa:Bool=>uDM (T7 (v7,v8)) [] [(43,(dB a))] [] []
  refine EvL.jn T8 (λa=>a=o8) ?_ ?_
  .refine zad ?_;obtain⟨x2,g3,j8⟩:=bsM j8;refine sXM (ixM g3) ?_;refine cBM j8 (λ_ j8=>?_) λ_ j8=>?_
   .refine sXM (ixM g3) ?_;refine cBM j8 (λ_ j8=>?_) λ_ j8=>?_
    .refine sXM (ixM g3) ?_;refine cBM j8 (λ_ j8=>?_) λ_ j8=>?_
     .obtain⟨r7,g8,j8⟩:=bsM j8;refine sXM (ixM g3) ?_;refine fCM (zgA g8) ?_;exact zch j8 hT8
     refine EvL.skip rfl ?_;refine sSM ?_;exact zch j8 hT8
    refine EvL.skip rfl ?_;refine sSM ?_;exact zch j8 hT8
   refine EvL.skip rfl ?_;refine sSM ?_;exact zch j8 hT8
  rintro v43 rfl;refine wTM hT8 ?_;refine cBM j4 (λ_ j4=>?_) λ_ j4=>?_
  .obtain⟨x10,g11,q12,g13,j4⟩:=zfo j4;refine sXM (anM (ixM g11) (anM ((zby g13).1) ((zby g13).2))) ?_;exact zcr hT7 ((orI .u64 v7 q12),(w64 (v8+1))) j4
  obtain rfl:=qae j4;exact rHM h
 rintro⟨⟩ rfl;dsimp only at h;refine wTM hT4 ?_;refine cBM h (λ_ h=>?_) λ_ h=>?_
 .exact rHM h
 exact rHM h
def zdG(p0:S_api_Net)(p1:Int):Nat->Int->Int->Option Int
 | 0,_,_=>none
 | n+1,v5,v6=>(
bif (decide (v6<(p0.nodes.length:Int)))then(
(zes p1 v6).bind λr2=>
((bif r2 then(
(zaE p0.nodes v6).bind λx5=>
some (w64 (v5 * x5.zaF)))
else(
some v5):Option Int)).bind λv5'=>
zdG p0 p1 n v5' (w64 (v6+1)))
else(
some v5))
def ze4(p0:S_api_Net)(p1:Int):Option Int:=
((zdG p0 p1 ((p0.nodes.length:Int) - 0+2:Int).toNat 1 0:Option Int)).bind λv5=>
some v5
theorem zkz{p0:S_api_Net}{p1:Int}{r:Int}(h:ze4 p0 p1=some r):Lx.Fn mC 55 [(.agg [(dI p0.grain),(fzE false zaa p0.nodes)]),(dU p1)] (dI r):=by
 refine gnO ?_;unfold ze4 at h;refine wSM ?_;obtain⟨o4,j4,h⟩:=bsM h;refine usM [] 0 (λa:Int=>([(5,(dI a))],[],[])) λT4 hT4=>?_
 refine EvL.jn T4 (λa=>a=o4) ?_ ?_
 .refine wSM ?_;refine usM [1,2] 1 (λa:(Int×Int)=>([(5,(dI a.1)),(6,(dI a.2))],[],[])) λT7 hT7=>?_
  refine rdM hT7 (λn a=>zdG p0 p1 n a.1 a.2=some o4) (1,0) j4 ?_;rintro n ⟨v5,v6⟩ j4;simp only[zdG]at j4;refine wTM hT7 ?_;refine cBM j4 (λ_ j4=>?_) λ_ j4=>?_
  .exact zch j4 hT4
  obtain⟨r2,g3,j4⟩:=bsM j4;refine sSM ?_;refine fCM (zgA g3) ?_;obtain⟨o8,j8,j4⟩:=bsM j4;obtain⟨T8,hT8⟩:=zcC hT7 λa:Int=>uDM (T7 (v5,v6)) [5] [(5,(dI a))] [] []
  refine EvL.jn T8 (λa=>a=o8) ?_ ?_
  .refine wSM ?_;refine cBM j8 (λ_ j8=>?_) λ_ j8=>?_
   .exact zch j8 hT8
   obtain⟨x5,g6,j8⟩:=bsM j8;refine sXM (anM @zak (zaq (n:=3) (e:=zaa) rfl g6)) ?_;exact zch j8 hT8
  rintro v5' rfl;refine wTM hT8 ?_;exact zcr hT7 (v5',(w64 (v6+1))) j4
 rintro v5 rfl;refine wTM hT4 ?_;exact rHM h
def zdL(p1:(List Int)):Nat->Int->Int->Option Int
 | 0,_,_=>none
 | n+1,v10,v11=>(
bif (decide (v11<(p1.length:Int)))then(
(zaE p1 v11).bind λx2=>
((bif (decide (0<=x2))then(
(zpr .u64 1 (IntKind.u64.wrap v11)).bind λq5=>
some (orI .u64 v10 q5))
else(
some v10):Option Int)).bind λv10'=>
zdL p1 n v10' (w64 (v11+1)))
else(
some v10))
def zdM(r7:(List Int))(v10:Int):Nat->Int->(List Int)->Option (List Int)
 | 0,_,_=>none
 | n+1,v14,l3=>(
bif (decide (v14<((r7.length:Nat):Int)))then(
(zaE r7 v14).bind λx10=>
(zpr .u64 1 (IntKind.u64.wrap v14)).bind λq12=>
(zcX 8 l3 [(zCZ .u64 (orI .u64 x10 q12) v10)]).bind λy14=>
zdM r7 v10 n (w64 (v14+1)) y14)
else(
some l3))
def zdk(v13:(List Int))(v17:Int)(p3:(List Int)):Nat->Int->Int->Int->(List Int)->Option (Int×Int×(List Int))
 | 0,_,_,_,_=>none
 | n+1,v19,v20,v21,l1=>(
bif (decide (v21<(v13.length:Int)))then(
((bif (v17 ==(p3.length:Int))then(
some true)
else(
(zaE v13 v21).bind λx19=>
(zaE p3 v17).bind λx21=>
(zes x19 x21).bind λr23=>
some r23):Option Bool)).bind λv85=>
((bif v85 then(
(zaE v13 v21).bind λx30=>
some ((orI .u64 v19 x30),(w64 (v20+1)),l1))
else(
(zaE v13 v21).bind λx26=>
(zcX 8 l1 [x26]).bind λy28=>
some (v19,v20,y28)):Option ((Int×Int×(List Int))))).bind λo=>match o with
|(v19',v20',l1')=>(
zdk v13 v17 p3 n v19' v20' (w64 (v21+1)) l1'))
else(
some (v19,v20,l1)))
def zdm(p3:(List Int))(p0:S_api_Net):Nat->(List Int)->Int->Int->Int->Option (Int×Int)
 | 0,_,_,_,_=>none
 | n+1,v13,v15,v16,v17=>(
bif (decide (v17<=(p3.length:Int)))then(
((((zdk v13 v17 p3 ((v13.length:Int) - 0+2:Int).toNat 0 0 0 []:Option ((Int×Int×(List Int))))).bind λo=>match o with
|(v19,v20,l1)=>(
bif (v20 == 0)then(
some (v13,v15,v16))
else(
(ze4 p0 v19).bind λr33=>
(ze4 p0 v19).bind λr35=>
bif (decide (v17<(p3.length:Int)))then(
(zaE p3 v17).bind λx38=>
(zpr .u64 1 (IntKind.u64.wrap x38)).bind λq40=>
(zcX 8 l1 [(zCZ .u64 v19 q40)]).bind λy42=>
some (y42,(w64 (v15+(w64 ((w64 (v20 - 1))* r33)))),(zhs v16 r35)))
else(
some (v13,(w64 (v15+(w64 ((w64 (v20 - 1))* r33)))),(zhs v16 r35))))):Option (((List Int)×Int×Int)))).bind λo=>match o with
|(v13',v15',v16')=>(
zdm p3 p0 n v13' v15' v16' (w64 (v17+1))))
else(
some (v15,v16)))
def zfN(p0:S_api_Net)(p1:(List Int))(p2:Int)(p3:(List Int)):Option (Int×Int):=
((zdL p1 ((p1.length:Int) - 0+2:Int).toNat 0 0:Option Int)).bind λv10=>
(zbL p0).bind λr7=>
((zdM r7 v10 (((r7.length:Nat):Int) - 0+2:Int).toNat 0 []:Option (List Int))).bind λl3=>
((zdm p3 p0 ((p3.length:Int) - 0+2:Int).toNat l3 0 0 0:Option ((Int×Int)))).bind λo=>match o with
|(v15,v16)=>(
some (v15,v16))
theorem zpU{p0:S_api_Net}{p1:(List Int)}{p2:Int}{p3:(List Int)}{r:(Int×Int)}(h:zfN p0 p1 p2 p3=some r):Lx.Fn mC 21 [(.agg [(dI p0.grain),(fzE false zaa p0.nodes)]),(fzE false (eI .i64) p1),(dI p2),(fzE false (eI .i64) p3)] (.tup [(dI r.1),(dI r.2)]):=by
 refine gnO ?_;unfold zfN at h;refine wSM ?_;obtain⟨o4,j4,h⟩:=bsM h;refine usM [3,4] 1 (λa:Int=>([(10,(dU a))],[],[])) λT4 hT4=>?_
 refine EvL.jn T4 (λa=>a=o4) ?_ ?_
 .refine wSM ?_;refine usM [1,3,4] 1 (λa:(Int×Int)=>([(10,(dU a.1)),(11,(dI a.2))],[],[])) λT7 hT7=>?_
  refine rdM hT7 (λn a=>zdL p1 n a.1 a.2=some o4) (0,0) j4 ?_;rintro n ⟨v10,v11⟩ j4;simp only[zdL]at j4;refine wTM hT7 ?_;refine cBM j4 (λ_ j4=>?_) λ_ j4=>?_
  .exact zch j4 hT4
  obtain⟨x2,g3,j4⟩:=bsM j4;refine sXM (ixM g3) ?_;obtain⟨o8,j8,j4⟩:=bsM j4;obtain⟨T8,hT8⟩:=zcC hT7 λa:Int=>uDM (T7 (v10,v11)) [10] [(10,(dU a))] [] []
  refine EvL.jn T8 (λa=>a=o8) ?_ ?_
  .refine wSM ?_;refine cBM j8 (λ_ j8=>?_) λ_ j8=>?_
   .exact zch j8 hT8
   obtain⟨q5,g6,j8⟩:=bsM j8;refine sXM (anM ((zby g6).1) ((zby g6).2)) ?_;exact zch j8 hT8
  rintro v10' rfl;refine wTM hT8 ?_;exact zcr hT7 (v10',(w64 (v11+1))) j4
 rintro v10 rfl;refine wTM hT4 ?_;obtain⟨r7,g8,h⟩:=bsM h;refine sSM ?_;refine EvL.fnT (r:=(.sl 2 0 1 r7.length none r7.length)) (L':=[.cells [(dI p0.grain),(fzE false zaa p0.nodes)],.gone,.grow 1 (r7.map ((eI .u64).c true))]) (zfS g8) rfl rfl (.cons (Mzs.agg (.cons (.lit _) (.cons (zdX _ _ (λh=>by cases h<;>contradiction)) .nil))) .nil) ⟨⟨qds,(zcz _ _),qds⟩,qds⟩ ⟨qds,qds⟩ ⟨qds,(zmS (eI .u64) (λ_=>⟨qds,qds⟩) _),qds⟩ rfl rfl ?_;refine sSM ?_;obtain⟨o9,j9,h⟩:=bsM h;obtain⟨T9,hT9⟩:=zcC hT4 λa:(List Int)=>uDM (T4 v10) [10] [(13,(.sl 3 0 1 a.length none a.length))] [] [.gone,.gone,.grow 1 (a.map ((eI .u64).c true))]
 refine EvL.jn T9 (λa=>a=o9) ?_ ?_
 .refine wSM ?_;obtain⟨T10,hT10⟩:=zcC hT4 λa:(Int×(List Int))=>uDM (T4 v10) [] [(12,(.sl 2 0 1 r7.length none r7.length)),(13,(.sl 3 0 1 a.2.length none a.2.length)),(14,(dI a.1))] [] [.gone,.grow 1 (r7.map ((eI .u64).c true)),.grow 1 (a.2.map ((eI .u64).c true))]
  refine EvL.zgd (za8.ghost (n:=1) (k:=13) (by decide) rfl) ?_;refine EvL.rounds (α:=(Int×(List Int))) T10 (λn a=>zdM r7 v10 n a.1 a.2=some o9) (((r7.length:Nat):Int) - 0+2:Int).toNat (0,[]) (by rw[hT10]; exact wm0 [.k,.d,.k,.k] ⟨MB.cs ⟨qds,qds,qds⟩,⟨rfl,⟨MB.gs (eI .u64) true r7,⟨MB.gs (eI .u64) true [],qds⟩⟩⟩⟩) j9 (λ_ h=>nomatch (show(none:Option (List Int))=some o9 from h)) ?_;rintro n ⟨v14,l3⟩ j9;simp only[zdM]at j9;refine wTM hT10 ?_;refine cBM j9 (λ_ j9=>?_) λ_ j9=>?_
  .exact zch j9 hT9
  obtain⟨x10,g11,q12,g13,y14,g15,j9⟩:=zhx j9;refine sXM (anM (zaZ g11) (anM (show v14<((r7.length:Nat):Int)from zd6 g11) (anM (guM g11) (anM ((zby g13).1) (anM ((zby g13).2) (anM (zbz g15) (anM (plM g15) (puM g15)))))))) ?_;exact zcr hT10 ((w64 (v14+1)),y14) j9
 rintro l3 rfl;refine wTM hT9 ?_;obtain⟨o122,j122,h⟩:=bsM h;refine usM [] 0 (λa:(Int×Int)=>([(15,(dI a.1)),(16,(dI a.2))],[],[])) λT122 hT122=>?_
 refine EvL.jn T122 (λa=>a=o122) ?_ ?_
 .refine wSM ?_;obtain⟨T197,hT197⟩:=zcC hT4 λa:((List Int)×Int×Int×Int)=>uDM (T4 v10) [10] [(13,(fzE true (eI .u64) a.1)),(15,(dI a.2.1)),(16,(dI a.2.2.1)),(17,(dI a.2.2.2))] [] []
  refine EvL.rounds (α:=((List Int)×Int×Int×Int)) T197 (λn a=>zdm p3 p0 n a.1 a.2.1 a.2.2.1 a.2.2.2=some o122) ((p3.length:Int) - 0+2:Int).toNat (l3,0,0,0) (by rw[hT197]; exact za8.m0 [.k,.d,.d,.f] rfl (msq (msq (mf rfl (zhz (e:=(eI .u64)) (t:=true) rfl rfl (.inr rfl) rfl rfl (λk h=>nomatch h) (λh=>by cases h<;>rfl)) (msq (msq (msq trivial)))))) ⟨MB.cs ⟨qds,qds,qds⟩,qds⟩) j122 (λ_ h=>nomatch (show(none:Option (Int×Int))=some o122 from h)) ?_;rintro n ⟨v13,v15,v16,v17⟩ j122;simp only[zdm]at j122;refine wTM hT197 ?_;refine cBM j122 (λ_ j122=>?_) λ_ j122=>?_
  .exact zch j122 hT122
  obtain⟨o216,j216,j122⟩:=bsM j122;obtain⟨T216,hT216⟩:=zcC hT4 λa:((List Int)×Int×Int)=>uDM (T4 v10) [10] [(13,(fzE true (eI .u64) a.1)),(15,(dI a.2.1)),(16,(dI a.2.2)),(17,(dI v17))] [] []
  refine EvL.jn T216 (λa=>a=o216) ?_ ?_
  .refine wSM ?_;obtain⟨o225,j225,j216⟩:=bsM j216;obtain⟨T225,hT225⟩:=zcC hT197 λa:(Int×Int×(List Int))=>uDM (T197 (v13,v15,v16,v17)) [] [(18,(.sl 1 0 1 a.2.2.length none a.2.2.length)),(19,(dU a.1)),(20,(dI a.2.1))] [] [.grow 1 (a.2.2.map ((eI .u64).c true))]
   refine EvL.jn T225 (λa=>a=o225) ?_ ?_
   .refine wSM ?_;obtain⟨T232,hT232⟩:=zcC hT197 λa:(Int×Int×Int×(List Int))=>uDM (T197 (v13,v15,v16,v17)) [] [(18,(.sl 1 0 1 a.2.2.2.length none a.2.2.2.length)),(19,(dU a.1)),(20,(dI a.2.1)),(21,(dI a.2.2.1))] [] [.grow 1 (a.2.2.2.map ((eI .u64).c true))]
    refine EvL.zgd (za8.ghost (n:=1) (k:=18) (by decide) rfl) ?_;refine EvL.rounds (α:=(Int×Int×Int×(List Int))) T232 (λn a=>zdk v13 v17 p3 n a.1 a.2.1 a.2.2.1 a.2.2.2=some o225) ((v13.length:Int) - 0+2:Int).toNat (0,0,0,[]) (by rw[hT232]; exact wm0 [.k,.k] ⟨MB.cs ⟨qds,qds,qds⟩,⟨MB.gs (eI .u64) true [],qds⟩⟩) j225 (λ_ h=>nomatch (show(none:Option (Int×Int×(List Int)))=some o225 from h)) ?_;rintro n ⟨v19,v20,v21,l1⟩ j225;simp only[zdk]at j225;refine wTM hT232 ?_;refine cBM j225 (λ_ j225=>?_) λ_ j225=>?_
    .exact zch j225 hT225
    obtain⟨o233,j233,j225⟩:=bsM j225;obtain⟨T233,hT233⟩:=zcC hT232 λa:Bool=>uDM (T232 (v19,v20,v21,l1)) [] [(85,(dB a))] [] []
    refine EvL.jn T233 (λa=>a=o233) ?_ ?_
    .refine wSM ?_;refine cBM j233 (λ_ j233=>?_) λ_ j233=>?_
     .obtain⟨x19,g20,x21,g22,r23,g24,j233⟩:=zhx j233;refine sXM (anM (zaq (n:=1) (e:=(eI .u64)) rfl g20) (ixM g22)) ?_;refine fCM (zgA g24) ?_;exact zch j233 hT233
     refine EvL.skip rfl ?_;refine sSM ?_;exact zch j233 hT233
    rintro v85 rfl;refine wTM hT233 ?_;obtain⟨o234,j234,j225⟩:=bsM j225;obtain⟨T234,hT234⟩:=zcC hT233 λa:(Int×Int×(List Int))=>uDM (T233 v85) [18,19,20,85] [(18,(.sl 1 0 1 a.2.2.length none a.2.2.length)),(19,(dU a.1)),(20,(dI a.2.1))] [(1,.grow 1 (a.2.2.map ((eI .u64).c true)))] []
    refine EvL.jn T234 (λa=>a=o234) ?_ ?_
    .refine wSM ?_;refine cBM j234 (λ_ j234=>?_) λ_ j234=>?_
     .obtain⟨x26,g27,y28,g29,j234⟩:=zfo j234;refine sXM (anM (zaq (n:=1) (e:=(eI .u64)) rfl g27) (anM (zbz g29) (anM (plM g29) (puM g29)))) ?_;exact zch j234 hT234
     obtain⟨x30,g31,j234⟩:=bsM j234;refine sXM (zaq (n:=1) (e:=(eI .u64)) rfl g31) ?_;exact zch j234 hT234
    rintro⟨v19',v20',l1'⟩ rfl;dsimp only at j225;refine wTM hT234 ?_;exact zcr hT232 (v19',v20',(w64 (v21+1)),l1') j225
   rintro⟨v19,v20,l1⟩ rfl;dsimp only at j216;refine wTM hT225 ?_;refine cBM j216 (λ_ j216=>?_) λ_ j216=>?_
   .obtain⟨r33,g34,j216⟩:=bsM j216;refine sSM ?_;refine fCM (zkz g34) ?_;obtain⟨r35,g36,j216⟩:=bsM j216;refine sSM ?_;refine fCM (zkz g36) ?_;refine cBM j216 (λ_ j216=>?_) λ_ j216=>?_
    .exact zch j216 hT216
    obtain⟨x38,g39,q40,g41,y42,g43,j216⟩:=zhx j216;refine sXM (anM (ixM g39) (anM ((zby g41).1) (anM ((zby g41).2) (anM (zbz g43) (anM (plM g43) (puM g43)))))) ?_;obtain rfl:=qae j216;exact lfj hT216 rfl (za8.m0 [.k,.f] rfl (msq (msq (mf rfl (zhz (e:=(eI .u64)) (t:=true) rfl rfl (.inr rfl) rfl rfl (λk h=>nomatch h) (λh=>by cases h<;>rfl)) (msq (msq (msq trivial)))))) ⟨MB.cs ⟨qds,qds,qds⟩,qds⟩)
   exact zch j216 hT216
  rintro⟨v13',v15',v16'⟩ rfl;dsimp only at j122;refine wTM hT216 ?_;exact zcr hT197 (v13',v15',v16',(w64 (v17+1))) j122
 rintro⟨v15,v16⟩ rfl;dsimp only at h;refine wTM hT122 ?_;exact rHM h
def zcR(p0:S_haruspexlaw09_Ask)(p1:Int):Option Int:=
(zrc (IntKind.u64.wrap p0.v) (IntKind.u64.wrap (zhs p1 1))).bind λq1=>
some (w64 q1)
theorem zkn{p0:S_haruspexlaw09_Ask}{p1:Int}{r:Int}(h:zcR p0 p1=some r):Lx.Fn mC 26 [(.agg [(dU8 p0.known.which),(dU8 p0.known.v.a0),(dU8 p0.known.v.a1),(dU8 p0.known.v.a2),(dU8 p0.known.v.a3),(dU8 p0.known.v.a4),(dU8 p0.known.v.a5),(dU8 p0.known.v.a6),(dU8 p0.known.v.a7),(dI p0.v),(dU8 p0.l.a0),(dU8 p0.l.a1),(dU8 p0.l.a2),(dU8 p0.l.a3),(dU8 p0.l.a4),(dU8 p0.l.a5),(dU8 p0.l.a6),(dU8 p0.l.a7),(fzE false (eI .i64) p0.e),(fzE false (eI .i64) p0.order)]),(dI p1)] (dI r):=by
 refine gnO ?_;unfold zcR at h;refine zad ?_;obtain⟨q1,g2,h⟩:=bsM h;refine sXM (anM (zjM g2) (ziJ g2)) ?_;exact rHM h
def zcG(p0:Int)(p1:Int)(p2:A8_Intu8):Nat->(List Int)->Int->Option (List Int)
 | 0,_,_=>none
 | n+1,v7,v8=>(
bif (decide (v8<p0))then(
((bif (v8 == p1)then(
some v7)
else(
(zaE [p2.a0,p2.a1,p2.a2,p2.a3,p2.a4,p2.a5,p2.a6,p2.a7] (v8.tmod 8)).bind λx3=>
(zrc (w64 x3) (w64 ((v7.length:Int)+1))).bind λq5=>
(zeG v7 0 q5).bind λy7=>
(zeB 8 y7).bind λy9=>
(zcX 8 y7 [v8]).bind λy11=>
(zeG v7 q5 v7.length).bind λy13=>
(zcX 8 y11 y13).bind λy15=>
some y15):Option (List Int))).bind λv7'=>
zcG p0 p1 p2 n v7' (w64 (v8+1)))
else(
some v7))
def zdO(p0:Int)(p1:Int)(p2:A8_Intu8):Option (List Int):=
((zcG p0 p1 p2 (p0 - 0+2:Int).toNat [] 0:Option (List Int))).bind λv7=>
some v7
theorem znn{p0:Int}{p1:Int}{p2:A8_Intu8}(h:zdO p0 p1 p2=some r):Lx.Fn mC 27 [(dI p0),(dI p1),(.agg [(dU8 p2.a0),(dU8 p2.a1),(dU8 p2.a2),(dU8 p2.a3),(dU8 p2.a4),(dU8 p2.a5),(dU8 p2.a6),(dU8 p2.a7)])] (fzE true (eI .i64) r):=by
 refine gnO ?_;unfold zdO at h;refine wSM ?_;obtain⟨o4,j4,h⟩:=bsM h;refine usM [] 0 (λa:(List Int)=>([(7,(fzE true (eI .i64) a))],[],[])) λT4 hT4=>?_
 refine EvL.jn T4 (λa=>a=o4) ?_ ?_
 .refine wSM ?_;refine usM [0,1,5] 1 (λa:((List Int)×Int)=>([(7,(fzE true (eI .i64) a.1)),(8,(dI a.2))],[],[])) λT7 hT7=>?_
  refine EvL.rounds (α:=((List Int)×Int)) T7 (λn a=>zcG p0 p1 p2 n a.1 a.2=some o4) (p0 - 0+2:Int).toNat ([],0) (by rw[hT7]; exact za8.m0 [.k] rfl (msq (msq (msq (mf rfl (zkL (eI .i64)) (msq trivial))))) ⟨MB.cs ⟨qds,qds,qds,qds,qds,qds,qds,qds,qds⟩,qds⟩) j4 (λ_ h=>nomatch (show(none:Option (List Int))=some o4 from h)) ?_;rintro n ⟨v7,v8⟩ j4;simp only[zcG]at j4;refine wTM hT7 ?_;refine cBM j4 (λ_ j4=>?_) λ_ j4=>?_
  .exact zch j4 hT4
  obtain⟨o8,j8,j4⟩:=bsM j4;obtain⟨T8,hT8⟩:=mkT λa:(List Int)=>⟨42,[(0,(dI p0)),(1,(dI p1)),(5,(.ptr 0 0)),(7,(fzE true (eI .i64) a)),(8,(dI v8))],[.cells [(dU8 p2.a0),(dU8 p2.a1),(dU8 p2.a2),(dU8 p2.a3),(dU8 p2.a4),(dU8 p2.a5),(dU8 p2.a6),(dU8 p2.a7)]]⟩
  refine EvL.jn T8 (λa=>a=o8) ?_ ?_
  .refine zad ?_;try simp only[rnA,Nat.reduceEqDiff,Nat.reduceLT,reduceCtorEq]
   cases c2:(v8 == p1)
   .rw[c2,qdu]at j8;obtain⟨x3,g4,q5,g6,y7,g8,j8⟩:=zhx j8;obtain⟨y9,g10,y11,g12,y13,g14,j8⟩:=zhx j8;obtain⟨y15,g16,j8⟩:=bsM j8;refine zHo (zaZ g4) (show(v8.tmod 8)<((8:Nat):Int)from zd6 g4) @qca (show [(dU8 p2.a0),(dU8 p2.a1),(dU8 p2.a2),(dU8 p2.a3),(dU8 p2.a4),(dU8 p2.a5),(dU8 p2.a6),(dU8 p2.a7)][(v8.tmod 8).toNat]? = some (.lit (.int .u8 x3))from zua g4 (λx=>(.lit (.int .u8 x):D)) rfl) (zjM g6) (anM (ziJ g6) (anM (zrl (n:=1) (e:=(eI .i64)) rfl g8) (anM (zmz (n:=1) (e:=(eI .i64)) rfl) (anM (zkr g10) (anM (zbz g12) (anM (plM g12) (anM (piM g12) (anM (zzX (n:=1) (e:=(eI .i64)) rfl g14) (anM (zbz g16) (anM (show y11.length+y13.length=y15.length from zfK g16) (show y11.map ((eI .i64).c true)++ y13.map ((eI .i64).c true)=y15.map ((eI .i64).c true)from zdB g16 ((eI .i64).c true)))))))))))) ?_;replace j8:=qae j8; subst j8;exact lfj hT8 rfl (za8.m0 [.k,.f] rfl (msq (msq (msq (mf rfl (zhz (e:=(eI .i64)) (t:=true) rfl rfl (.inr rfl) rfl rfl (λk h=>nomatch h) (λh=>by cases h<;>rfl)) (msq trivial))))) ⟨MB.cs ⟨qds,qds,qds,qds,qds,qds,qds,qds,qds⟩,qds⟩)
   rw[c2,qdt]at j8;refine sSM ?_;exact zch j8 hT8
  rintro v7' rfl;refine wTM hT8 ?_;exact zcr hT7 (v7',(w64 (v8+1))) j4
 rintro v7 rfl;refine wTM hT4 ?_;exact rHM h
def zc5(p0:S_haruspexlaw09_Ask)(p1:S_api_Net):Option A4_S_haruspexlaw09_Ask:=
(zcT p0.known p1).bind λr1=>
(zcR p0 (p1.nodes.length:Int)).bind λr3=>
(zeG p0.e 0 (zmj (p0.e.length:Int) 10)).bind λy5=>
(zeG p0.order 0 (zmj (p0.order.length:Int) 10)).bind λy7=>
(zdO (p1.nodes.length:Int) r3 p0.l).bind λr9=>
some (A4_S_haruspexlaw09_Ask.mk (S_haruspexlaw09_Ask.mk (S_haruspexref05_Known.mk 0 (A8_Intu8.mk 0 0 0 0 0 0 0 0)) r3 (A8_Intu8.mk 0 0 0 0 0 0 0 0) r1 r9) (S_haruspexlaw09_Ask.mk (S_haruspexref05_Known.mk 0 (A8_Intu8.mk 0 0 0 0 0 0 0 0)) r3 (A8_Intu8.mk 0 0 0 0 0 0 0 0) y5 r9) (S_haruspexlaw09_Ask.mk (S_haruspexref05_Known.mk 0 (A8_Intu8.mk 0 0 0 0 0 0 0 0)) p0.v (A8_Intu8.mk 0 0 0 0 0 0 0 0) r1 r9) (S_haruspexlaw09_Ask.mk (S_haruspexref05_Known.mk 0 (A8_Intu8.mk 0 0 0 0 0 0 0 0)) r3 (A8_Intu8.mk 0 0 0 0 0 0 0 0) r1 y7))
theorem zjd{p0:S_haruspexlaw09_Ask}{p1:S_api_Net}{r:A4_S_haruspexlaw09_Ask}(h:zc5 p0 p1=some r):Lx.FnA mC 12 [(.agg [(dU8 p0.known.which),(dU8 p0.known.v.a0),(dU8 p0.known.v.a1),(dU8 p0.known.v.a2),(dU8 p0.known.v.a3),(dU8 p0.known.v.a4),(dU8 p0.known.v.a5),(dU8 p0.known.v.a6),(dU8 p0.known.v.a7),(dI p0.v),(dU8 p0.l.a0),(dU8 p0.l.a1),(dU8 p0.l.a2),(dU8 p0.l.a3),(dU8 p0.l.a4),(dU8 p0.l.a5),(dU8 p0.l.a6),(dU8 p0.l.a7),(fzE false (eI .i64) p0.e),(fzE false (eI .i64) p0.order)]),(.agg [(dI p1.grain),(fzE false zaa p1.nodes)])] (.agg [(dU8 r.a0.known.which),(dU8 r.a0.known.v.a0),(dU8 r.a0.known.v.a1),(dU8 r.a0.known.v.a2),(dU8 r.a0.known.v.a3),(dU8 r.a0.known.v.a4),(dU8 r.a0.known.v.a5),(dU8 r.a0.known.v.a6),(dU8 r.a0.known.v.a7),(dI r.a0.v),(dU8 r.a0.l.a0),(dU8 r.a0.l.a1),(dU8 r.a0.l.a2),(dU8 r.a0.l.a3),(dU8 r.a0.l.a4),(dU8 r.a0.l.a5),(dU8 r.a0.l.a6),(dU8 r.a0.l.a7),(fzE false (eI .i64) r.a0.e),(fzE false (eI .i64) r.a0.order),(dU8 r.a1.known.which),(dU8 r.a1.known.v.a0),(dU8 r.a1.known.v.a1),(dU8 r.a1.known.v.a2),(dU8 r.a1.known.v.a3),(dU8 r.a1.known.v.a4),(dU8 r.a1.known.v.a5),(dU8 r.a1.known.v.a6),(dU8 r.a1.known.v.a7),(dI r.a1.v),(dU8 r.a1.l.a0),(dU8 r.a1.l.a1),(dU8 r.a1.l.a2),(dU8 r.a1.l.a3),(dU8 r.a1.l.a4),(dU8 r.a1.l.a5),(dU8 r.a1.l.a6),(dU8 r.a1.l.a7),(fzE false (eI .i64) r.a1.e),(fzE false (eI .i64) r.a1.order),(dU8 r.a2.known.which),(dU8 r.a2.known.v.a0),(dU8 r.a2.known.v.a1),(dU8 r.a2.known.v.a2),(dU8 r.a2.known.v.a3),(dU8 r.a2.known.v.a4),(dU8 r.a2.known.v.a5),(dU8 r.a2.known.v.a6),(dU8 r.a2.known.v.a7),(dI r.a2.v),(dU8 r.a2.l.a0),(dU8 r.a2.l.a1),(dU8 r.a2.l.a2),(dU8 r.a2.l.a3),(dU8 r.a2.l.a4),(dU8 r.a2.l.a5),(dU8 r.a2.l.a6),(dU8 r.a2.l.a7),(fzE false (eI .i64) r.a2.e),(fzE false (eI .i64) r.a2.order),(dU8 r.a3.known.which),(dU8 r.a3.known.v.a0),(dU8 r.a3.known.v.a1),(dU8 r.a3.known.v.a2),(dU8 r.a3.known.v.a3),(dU8 r.a3.known.v.a4),(dU8 r.a3.known.v.a5),(dU8 r.a3.known.v.a6),(dU8 r.a3.known.v.a7),(dI r.a3.v),(dU8 r.a3.l.a0),(dU8 r.a3.l.a1),(dU8 r.a3.l.a2),(dU8 r.a3.l.a3),(dU8 r.a3.l.a4),(dU8 r.a3.l.a5),(dU8 r.a3.l.a6),(dU8 r.a3.l.a7),(fzE false (eI .i64) r.a3.e),(fzE false (eI .i64) r.a3.order)]):=by
 refine zz4 ?_;unfold zc5 at h;refine zad ?_;obtain⟨r1,g2,h⟩:=bsM h;refine sSM ?_;refine fCM (zkx g2) ?_;obtain⟨r3,g4,h⟩:=bsM h;refine sSM ?_;refine fCM (zkn g4) ?_;obtain⟨y5,g6,y7,g8,r9,g10,h⟩:=zhx h;refine sXM (anM (zrl (n:=1) (e:=(eI .i64)) rfl g6) (zrl (n:=1) (e:=(eI .i64)) rfl g8)) ?_;refine fCM (znn g10) ?_;exact rHM h
end Go.Dc
