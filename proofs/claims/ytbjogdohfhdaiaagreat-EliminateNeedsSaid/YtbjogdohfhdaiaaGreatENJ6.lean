/-
 What net_Ancestors computes. Conditions: none.
-/
import Derived.Test.YtbjogdohfhdaiaaGreatENJ5
set_option linter.unusedSimpArgs false
set_option linter.unusedVariables false
set_option maxRecDepth 100000
set_option maxHeartbeats 4000000
namespace Go.Dc
open Go Go.Mx Go.Lx Go.Proofs
def zcA(p0:(List Int))(r5:Int):Nat->Int->(List Int)->Option (List Int)
 | 0,_,_=>none
 | n+1,v11,l0=>(
bif (decide (v11<(p0.length:Int)))then(
(zbk r5 v11).bind λr8=>
((bif r8 then(
(zaz p0 v11).bind λx11=>
some x11)
else(
some 0):Option Int)).bind λv12=>
(zd1 8 l0 [v12]).bind λy13=>
zcA p0 r5 n (w64 (v11+1)) y13)
else(
some l0))
def zcI(p0:(List Int))(p3:Int)(r15:(List Int)):Nat->Int->Int->Option Int
 | 0,_,_=>none
 | n+1,v14',v16=>(
bif (decide (v16<(p0.length:Int)))then(
(((zbk v14' v16).bind λr21=>
bif r21 then(
(zbk p3 v16).bind λr24=>
some (!r24))
else(
some false):Option Bool)).bind λv70=>
((bif v70 then(
(zaz r15 v16).bind λx27=>
some (orI .u64 v14' x27))
else(
some v14'):Option Int)).bind λv14''=>
zcI p0 p3 r15 n v14'' (w64 (v16+1)))
else(
some v14'))
def zb3(p0:(List Int))(p3:Int)(r15:(List Int)):Nat->Int->Int->Option Int
 | 0,_,_=>none
 | n+1,v14,v15=>(
bif (decide (v15<(p0.length:Int)))then(
((zcI p0 p3 r15 ((p0.length:Int) - 0+2:Int).toNat v14 0:Option Int)).bind λv14'=>
zb3 p0 p3 r15 n v14' (w64 (v15+1)))
else(
some v14))
def zed(p0:(List Int))(p1:Int)(p2:Int)(p3:Int):Option Bool:=
(zjl .u64 1 (IntKind.u64.wrap p1)).bind λq1=>
(zjl .u64 1 (IntKind.u64.wrap p2)).bind λq3=>
(zgd p0 (orI .u64 (orI .u64 q1 q3) p3)).bind λr5=>
((zcA p0 r5 ((p0.length:Int) - 0+2:Int).toNat 0 []:Option (List Int))).bind λl0=>
(zel l0).bind λr15=>
(zjl .u64 1 (IntKind.u64.wrap p1)).bind λq17=>
((zb3 p0 p3 r15 ((p0.length:Int) - 0+2:Int).toNat q17 0:Option Int)).bind λv14=>
(zbk v14 p2).bind λr29=>
some (!r29)
theorem zm7{p0:(List Int)}{p1:Int}{p2:Int}{p3:Int}{r:Bool}(h:zed p0 p1 p2 p3=some r):Lx.Fn mC 58 [(fzE false (eI .u64) p0),(dI p1),(dI p2),(dU p3)] (dB r):=by
 refine gnO ?_;unfold zed at h;refine zad ?_;obtain⟨q1,g2,h⟩:=bsM h;obtain⟨q3,g4,h⟩:=bsM h;obtain⟨r5,g6,h⟩:=bsM h;refine sXM (anM ((zaN g2).1) (anM ((zaN g2).2) (anM ((zaN g4).1) ((zaN g4).2)))) ?_;refine fCM (znG g6) ?_;obtain⟨o5,j5,h⟩:=bsM h;obtain⟨T5,hT5⟩:=mkT λa:(List Int)=>⟨81,[(0,(fzE false (eI .u64) p0)),(1,(dI p1)),(2,(dI p2)),(3,(dU p3)),(10,(.sl 0 0 1 a.length none a.length))],[.grow 1 (a.map ((eI .u64).c true))]⟩
 refine EvL.jn T5 (λa=>a=o5) ?_ ?_
 .refine wSM ?_;obtain⟨T9,hT9⟩:=mkT λa:(Int×(List Int))=>⟨81,[(0,(fzE false (eI .u64) p0)),(1,(dI p1)),(2,(dI p2)),(3,(dU p3)),(9,(dU r5)),(10,(.sl 0 0 1 a.2.length none a.2.length)),(11,(dI a.1))],[.grow 1 (a.2.map ((eI .u64).c true))]⟩
  refine EvL.ze4 (zbH.ghost (n:=1) (k:=10) (by decide) rfl) ?_;refine EvL.rounds (α:=(Int×(List Int))) T9 (λn a=>zcA p0 r5 n a.1 a.2=some o5) ((p0.length:Int) - 0+2:Int).toNat (0,[]) (by rw[hT9]; exact wm0 [.k] ⟨MB.gs (eI .u64) true [],qdy⟩) j5 (λ_ h=>nomatch (show(none:Option (List Int))=some o5 from h)) ?_;rintro n ⟨v11,l0⟩ j5;simp only[zcA]at j5;refine wTM hT9 ?_;refine cBM j5 (λ_ j5=>?_) λ_ j5=>?_
  .exact zcf j5 hT5
  obtain⟨r8,g9,j5⟩:=bsM j5;refine sSM ?_;refine fCM (zcS g9) ?_;obtain⟨o10,j10,j5⟩:=bsM j5;obtain⟨T10,hT10⟩:=zce hT9 λa:Int=>uDM (T9 (v11,l0)) [] [(12,(dU a))] [] []
  refine EvL.jn T10 (λa=>a=o10) ?_ ?_
  .refine wSM ?_;refine cBM j10 (λ_ j10=>?_) λ_ j10=>?_
   .exact zcf j10 hT10
   obtain⟨x11,g12,j10⟩:=bsM j10;refine sXM (zas (n:=1) (e:=(eI .u64)) rfl g12) ?_;exact zcf j10 hT10
  rintro v12 rfl;refine wTM hT10 ?_;obtain⟨y13,g14,j5⟩:=bsM j5;refine sXM (anM (zcK g14) (anM (plM g14) (puM g14))) ?_;exact zct hT9 ((w64 (v11+1)),y13) j5
 rintro l0 rfl;refine wTM hT5 ?_;obtain⟨r15,g16,h⟩:=bsM h;refine sSM ?_;refine fCM (zmv g16) ?_;obtain⟨q17,g18,h⟩:=bsM h;refine sXM (anM ((zaN g18).1) ((zaN g18).2)) ?_;obtain⟨o53,j53,h⟩:=bsM h;obtain⟨T53,hT53⟩:=mkT λa:Int=>⟨81,[(2,(dI p2)),(14,(dU a))],[]⟩
 refine EvL.jn T53 (λa=>a=o53) ?_ ?_
 .refine wSM ?_;obtain⟨T82,hT82⟩:=mkT λa:(Int×Int)=>⟨81,[(0,(fzE false (eI .u64) p0)),(2,(dI p2)),(3,(dU p3)),(13,(fzE true (eI .u64) r15)),(14,(dU a.1)),(15,(dI a.2))],[]⟩
  refine EvL.rounds (α:=(Int×Int)) T82 (λn a=>zb3 p0 p3 r15 n a.1 a.2=some o53) ((p0.length:Int) - 0+2:Int).toNat (q17,0) (by rw[hT82]; exact wAM) j53 (λ_ h=>nomatch (show(none:Option Int)=some o53 from h)) ?_;rintro n ⟨v14,v15⟩ j53;simp only[zb3]at j53;refine wTM hT82 ?_;refine cBM j53 (λ_ j53=>?_) λ_ j53=>?_
  .exact zcf j53 hT53
  obtain⟨o89,j89,j53⟩:=bsM j53;obtain⟨T89,hT89⟩:=zce hT82 λa:Int=>uDM (T82 (v14,v15)) [14] [(14,(dU a))] [] []
  refine EvL.jn T89 (λa=>a=o89) ?_ ?_
  .refine wSM ?_;obtain⟨T94,hT94⟩:=zce hT82 λa:(Int×Int)=>uDM (T82 (v14,v15)) [14] [(14,(dU a.1)),(16,(dI a.2))] [] []
   refine EvL.rounds (α:=(Int×Int)) T94 (λn a=>zcI p0 p3 r15 n a.1 a.2=some o89) ((p0.length:Int) - 0+2:Int).toNat (v14,0) (wRM hT94) j89 (λ_ h=>nomatch (show(none:Option Int)=some o89 from h)) ?_;rintro n ⟨v14',v16⟩ j89;simp only[zcI]at j89;refine wTM hT94 ?_;refine cBM j89 (λ_ j89=>?_) λ_ j89=>?_
   .exact zcf j89 hT89
   obtain⟨o95,j95,j89⟩:=bsM j89;obtain⟨T95,hT95⟩:=zce hT94 λa:Bool=>uDM (T94 (v14',v16)) [] [(70,(dB a))] [] []
   refine EvL.jn T95 (λa=>a=o95) ?_ ?_
   .refine zad ?_;obtain⟨r21,g22,j95⟩:=bsM j95;refine sSM ?_;refine fCM (zcS g22) ?_;refine cBM j95 (λ_ j95=>?_) λ_ j95=>?_
    .refine EvL.skip rfl ?_;refine sSM ?_;exact zcf j95 hT95
    obtain⟨r24,g25,j95⟩:=bsM j95;refine sSM ?_;refine fCM (zcS g25) ?_;exact zcf j95 hT95
   rintro v70 rfl;refine wTM hT95 ?_;obtain⟨o96,j96,j89⟩:=bsM j89;obtain⟨T96,hT96⟩:=zce hT95 λa:Int=>uDM (T95 v70) [14,70] [(14,(dU a))] [] []
   refine EvL.jn T96 (λa=>a=o96) ?_ ?_
   .refine wSM ?_;refine cBM j96 (λ_ j96=>?_) λ_ j96=>?_
    .exact zcf j96 hT96
    obtain⟨x27,g28,j96⟩:=bsM j96;refine sXM (zas (n:=1) (e:=(eI .u64)) rfl g28) ?_;exact zcf j96 hT96
   rintro v14'' rfl;refine wTM hT96 ?_;exact zct hT94 (v14'',(w64 (v16+1))) j89
  rintro v14' rfl;refine wTM hT89 ?_;exact zct hT82 (v14',(w64 (v15+1))) j53
 rintro v14 rfl;refine wTM hT53 ?_;obtain⟨r29,g30,h⟩:=bsM h;refine sSM ?_;refine fCM (zcS g30) ?_;exact rHM h
def zca(p1:(List Int)):Nat->Int->Int->Option Int
 | 0,_,_=>none
 | n+1,v7,v8=>(
bif (decide (v8<(p1.length:Int)))then(
(zaz p1 v8).bind λx2=>
((bif (decide (0<=x2))then(
(zjl .u64 1 (IntKind.u64.wrap v8)).bind λq5=>
some (orI .u64 v7 q5))
else(
some v7):Option Int)).bind λv7'=>
zca p1 n v7' (w64 (v8+1)))
else(
some v7))
def zbJ(p0:S_api_Net)(p1:(List Int))(p2:Int)(v7:Int):Nat->Int->Int->Option Int
 | 0,_,_=>none
 | n+1,v9,v10=>(
((bif (decide (v10<(p0.nodes.length:Int)))then(
(zaz p1 p2).bind λx8=>
some (x8 ==(-1)))
else(
some false):Option Bool)).bind λv39=>
bif v39 then(
(zbn p0).bind λr11=>
(zd1 8 r11 [0]).bind λy13=>
(zaz y13 v10).bind λx15=>
(zjl .u64 1 (IntKind.u64.wrap (p0.nodes.length:Int))).bind λq17=>
(zeU y13 v10 (orI .u64 x15 q17)).bind λy19=>
(zed y19 (p0.nodes.length:Int) p2 v7).bind λr21=>
((bif r21 then(
some v9)
else(
(zjl .u64 1 (IntKind.u64.wrap v10)).bind λq24=>
some (orI .u64 v9 q24)):Option Int)).bind λv9'=>
zbJ p0 p1 p2 v7 n v9' (w64 (v10+1)))
else(
some v9))
def zdR(N:Nat)(p0:S_api_Net)(p1:(List Int))(p2:Int):Option Int:=
((zca p1 ((p1.length:Int) - 0+2:Int).toNat 0 0:Option Int)).bind λv7=>
((zbJ p0 p1 p2 v7 N 0 0:Option Int)).bind λv9=>
some v9
theorem zlt{N:Nat}{p0:S_api_Net}{p1:(List Int)}{p2:Int}{r:Int}(h:zdR N p0 p1 p2=some r):Lx.Fn mC 24 [(.agg [(dI p0.grain),(fzE false zaa p0.nodes)]),(fzE false (eI .i64) p1),(dI p2)] (dU r):=by
 refine gnO ?_;unfold zdR at h;refine wSM ?_;obtain⟨o4,j4,h⟩:=bsM h;obtain⟨T4,hT4⟩:=mkT λa:Int=>⟨73,[(1,(fzE false (eI .i64) p1)),(2,(dI p2)),(3,(.ptr 0 0)),(7,(dU a))],[.cells [(dI p0.grain),(fzE false zaa p0.nodes)]]⟩
 refine EvL.jn T4 (λa=>a=o4) ?_ ?_
 .refine wSM ?_;obtain⟨T7,hT7⟩:=mkT λa:(Int×Int)=>⟨73,[(1,(fzE false (eI .i64) p1)),(2,(dI p2)),(3,(.ptr 0 0)),(7,(dU a.1)),(8,(dI a.2))],[.cells [(dI p0.grain),(fzE false zaa p0.nodes)]]⟩
  refine rdM hT7 (λn a=>zca p1 n a.1 a.2=some o4) (0,0) j4 ?_;rintro n ⟨v7,v8⟩ j4;simp only[zca]at j4;refine wTM hT7 ?_;refine cBM j4 (λ_ j4=>?_) λ_ j4=>?_
  .exact zcf j4 hT4
  obtain⟨x2,g3,j4⟩:=bsM j4;refine sXM (ixM g3) ?_;obtain⟨o8,j8,j4⟩:=bsM j4;obtain⟨T8,hT8⟩:=zce hT7 λa:Int=>uDM (T7 (v7,v8)) [7] [(7,(dU a))] [] []
  refine EvL.jn T8 (λa=>a=o8) ?_ ?_
  .refine wSM ?_;refine cBM j8 (λ_ j8=>?_) λ_ j8=>?_
   .exact zcf j8 hT8
   obtain⟨q5,g6,j8⟩:=bsM j8;refine sXM (anM ((zaN g6).1) ((zaN g6).2)) ?_;exact zcf j8 hT8
  rintro v7' rfl;refine wTM hT8 ?_;exact zct hT7 (v7',(w64 (v8+1))) j4
 rintro v7 rfl;refine wTM hT4 ?_;obtain⟨o15,j15,h⟩:=bsM h;obtain⟨T15,hT15⟩:=mkT λa:Int=>⟨73,[(9,(dU a))],[]⟩
 refine EvL.jn T15 (λa=>a=o15) ?_ ?_
 .refine wSM ?_;obtain⟨T20,hT20⟩:=zce hT4 λa:(Int×Int)=>uDM (T4 v7) [] [(9,(dU a.1)),(10,(dI a.2))] [] []
  refine rdM hT20 (λn a=>zbJ p0 p1 p2 v7 n a.1 a.2=some o15) (0,0) j15 ?_;rintro n ⟨v9,v10⟩ j15;simp only[zbJ]at j15;refine wTM hT20 ?_;obtain⟨o21,j21,j15⟩:=bsM j15;obtain⟨T21,hT21⟩:=zce hT20 λa:Bool=>uDM (T20 (v9,v10)) [] [(39,(dB a))] [] []
  refine EvL.jn T21 (λa=>a=o21) ?_ ?_
  .refine wSM ?_;refine cBM j21 (λ_ j21=>?_) λ_ j21=>?_
   .exact zcf j21 hT21
   obtain⟨x8,g9,j21⟩:=bsM j21;refine sXM (ixM g9) ?_;exact zcf j21 hT21
  rintro v39 rfl;refine wTM hT21 ?_;refine cBM j15 (λ_ j15=>?_) λ_ j15=>?_
  .exact zcf j15 hT15
  obtain⟨r11,g12,j15⟩:=bsM j15;refine sSM ?_;refine EvL.fnT (r:=(.sl 2 0 1 r11.length none r11.length)) (L':=[.cells [(dI p0.grain),(fzE false zaa p0.nodes)],.gone,.grow 1 (r11.map ((eI .u64).c true))]) (zeL g12) rfl rfl (.cons (Mzs.agg (.cons (.lit _) (.cons (zkt _ _ (λh=>by cases h<;>contradiction)) .nil))) .nil) ⟨⟨qdy,(zkL _ _),qdy⟩,qdy⟩ ⟨qdy,qdy⟩ ⟨qdy,(zve (eI .u64) (λ_=>⟨qdy,qdy⟩) _),qdy⟩ rfl rfl ?_;obtain⟨y13,g14,j15⟩:=bsM j15;obtain⟨x15,g16,j15⟩:=bsM j15;obtain⟨q17,g18,j15⟩:=bsM j15;obtain⟨y19,g20,j15⟩:=bsM j15;obtain⟨r21,g22,j15⟩:=bsM j15;refine sXM (anM (zcK g14) (anM (plM g14) (anM (puM g14) (anM (zbp g16) (anM (show v10<((y13.length:Nat):Int)from zfH g16) (anM (guM g16) (anM ((zaN g18).1) (anM ((zaN g18).2) (suM g20))))))))) ?_;refine fCM (zm7 g22) ?_;obtain⟨o22,j22,j15⟩:=bsM j15;obtain⟨T22,hT22⟩:=zce hT21 λa:Int=>uDM (T21 v39) [9,39] [(9,(dU a))] [] []
  refine EvL.jn T22 (λa=>a=o22) ?_ ?_
  .refine wSM ?_;refine cBM j22 (λ_ j22=>?_) λ_ j22=>?_
   .obtain⟨q24,g25,j22⟩:=bsM j22;refine sXM (anM ((zaN g25).1) ((zaN g25).2)) ?_;exact zcf j22 hT22
   exact zcf j22 hT22
  rintro v9' rfl;refine wTM hT22 ?_;exact zct hT20 (v9',(w64 (v10+1))) j15
 rintro v9 rfl;refine wTM hT15 ?_;exact rHM h
def zaW(N:Nat)(r11:A4_S_haruspexlaw09_Ask)(x7:S_api_Net):Nat->Int->Option (Out Unit Bool)
 | 0,_=>none
 | n+1,v26=>(
bif (decide (v26<4))then(
(zaz [r11.a0,r11.a1,r11.a2,r11.a3] v26).bind λx14=>
(zcn N x7 x14.e x14.v).bind λr16=>
(zc1 x7 x14.e).bind λr18=>
((bif (r18 == 0)then(
bif (decide (x14.v<0))then(
some true)
else(
some (decide ((x7.nodes.length:Int)<=x14.v))))
else(
some false):Option Bool)).bind λv56=>
((bif v56 then(
some 2)
else(
some r18):Option Int)).bind λv13=>
((bif (r16.2 == v13)then(
bif (v13 == 0)then(
(zdR N x7 x14.e x14.v).bind λr26=>
some (!(r16.1 == r26)))
else(
bif (r16.1 == 0)then(
some false)
else(
some true)))
else(
some true):Option Bool)).bind λv81=>
bif v81 then(
some (.ret false))
else(
zaW N r11 x7 n (w64 (v26+1))))
else(
some (.go ())))
def zaU(N:Nat)(r4:A2_S_api_Net)(p0:S_haruspexref05_Draft)(p2:S_haruspexlaw09_Ask):Nat->Int->Option (Out Unit Bool)
 | 0,_=>none
 | n+1,v19=>(
bif (decide (v19<2))then(
(zaz [r4.a0,r4.a1] v19).bind λx7=>
(zby N p0).bind λr9=>
(zcv p2 r9).bind λr11=>
((zaW N r11 x7 (4 - 0+2:Int).toNat 0:Option (Out Unit Bool))).bind λo=>match o with
| .go _=>(
zaU N r4 p0 p2 n (w64 (v19+1)))
| .ret r=>some (.ret r))
else(
some (.go ())))
def zbT(N:Nat)(p0:S_haruspexref05_Draft)(p1:S_haruspexref05_Bend)(p2:S_haruspexlaw09_Ask):Option Bool:=
(zos).bind λr1=>
bif r1 then(
(zeN N p0 p1).bind λr4=>
((zaU N r4 p0 p2 (2 - 0+2:Int).toNat 0:Option (Out Unit Bool))).bind λo=>match o with
| .go _=>(
some true)
| .ret r=>some r)
else(
some false)
theorem zfO{N:Nat}{p0:S_haruspexref05_Draft}{p1:S_haruspexref05_Bend}{p2:S_haruspexlaw09_Ask}{r:Bool}(h:zbT N p0 p1 p2=some r):Lx.Fn mC 5 [(.agg [(dU8 p0.grain),(fzE false zao p0.nodes),(fzE false (eI .u8) p0.order)]),(.agg [(dU8 p1.what),(dU8 p1.at_),(dU8 p1.row),(dI p1.n)]),(.agg [(dU8 p2.known.which),(dU8 p2.known.v.a0),(dU8 p2.known.v.a1),(dU8 p2.known.v.a2),(dU8 p2.known.v.a3),(dU8 p2.known.v.a4),(dU8 p2.known.v.a5),(dU8 p2.known.v.a6),(dU8 p2.known.v.a7),(dI p2.v),(dU8 p2.l.a0),(dU8 p2.l.a1),(dU8 p2.l.a2),(dU8 p2.l.a3),(dU8 p2.l.a4),(dU8 p2.l.a5),(dU8 p2.l.a6),(dU8 p2.l.a7),(fzE false (eI .i64) p2.e),(fzE false (eI .i64) p2.order)])] (dB r):=by
 refine gnO ?_;unfold zbT at h;refine zad ?_;obtain⟨r1,g2,h⟩:=bsM h;refine sSM ?_;refine fCM (zv7 g2) ?_;refine cBM h (λ_ h=>?_) λ_ h=>?_
 .exact rHM h
 obtain⟨r4,g5,h⟩:=bsM h;refine sSM ?_;refine fCM (zok g5) ?_;obtain⟨o61,j61,h⟩:=bsM h;obtain⟨T61,hT61⟩:=mkT λa:Unit=>⟨84,[],[]⟩
 refine EvL.jn T61 (λa=>o61=.go a) ?_ ?_
 .refine wSM ?_;obtain⟨T102,hT102⟩:=mkT λa:Int=>⟨84,[(3,(.ptr 0 0)),(5,(.ptr 2 0)),(18,(.agg [(dI r4.a0.grain),(fzE true zaa r4.a0.nodes),(dI r4.a1.grain),(fzE true zaa r4.a1.nodes)])),(19,(dI a))],[.cells [(dU8 p0.grain),(fzE false zao p0.nodes),(fzE false (eI .u8) p0.order)],.gone,.cells [(dU8 p2.known.which),(dU8 p2.known.v.a0),(dU8 p2.known.v.a1),(dU8 p2.known.v.a2),(dU8 p2.known.v.a3),(dU8 p2.known.v.a4),(dU8 p2.known.v.a5),(dU8 p2.known.v.a6),(dU8 p2.known.v.a7),(dI p2.v),(dU8 p2.l.a0),(dU8 p2.l.a1),(dU8 p2.l.a2),(dU8 p2.l.a3),(dU8 p2.l.a4),(dU8 p2.l.a5),(dU8 p2.l.a6),(dU8 p2.l.a7),(fzE false (eI .i64) p2.e),(fzE false (eI .i64) p2.order)]]⟩
  refine rdM hT102 (λn a=>zaU N r4 p0 p2 n a=some o61) 0 j61 ?_;rintro n v19 j61;simp only[zaU]at j61;refine wTM hT102 ?_;cases c6:(decide (v19<2))
  .rw[c6,qdA]at j61;refine sSM ?_;replace j61:=qaf j61; subst j61;exact lfj hT61 rfl (wm0 [] (by exact trivial))
  rw[c6,qdz]at j61;obtain⟨x7,g8,j61⟩:=bsM j61;obtain⟨r9,g10,j61⟩:=bsM j61;try simp only[rnA,Nat.reduceEqDiff,Nat.reduceLT,Nat.reduceAdd,Nat.reduceLeDiff,zbp g8,(show v19<((2:Nat):Int)from zfH g8),qbg,(show([(dI r4.a0.grain),(fzE true zaa r4.a0.nodes),(dI r4.a1.grain),(fzE true zaa r4.a1.nodes)].drop (v19.toNat * 2)).take 2=[(dI x7.grain),(fzE true zaa x7.nodes)]from zqZ (e:=zjX) (t:=true) rfl g8 rfl),(show v19.toNat * 2+2<=4 from zx3 (e:=zjX) rfl g8)]
  refine EvL.fn (zfj g10) rfl rfl (.cons (.zga (.cons (.lit _) (.cons (zdD _ _ (λh=>nomatch h)) (.cons (zdD _ _ (λh=>nomatch h)) .nil)))) .nil) ?_;obtain⟨r11,g12,j61⟩:=bsM j61;refine sSM ?_;refine fDM (zig g12) ?_;obtain⟨o112,j112,j61⟩:=bsM j61;obtain⟨T112,hT112⟩:=zce hT102 λa:Unit=>uDM (T102 v19) [] [] [] []
  refine EvL.jn T112 (λa=>o112=.go a) ?_ ?_
  .refine wSM ?_;obtain⟨T119,hT119⟩:=zce hT102 λa:Int=>uDM (T102 v19) [] [(8,(.ptr 3 0)),(25,(.agg [(dU8 r11.a0.known.which),(dU8 r11.a0.known.v.a0),(dU8 r11.a0.known.v.a1),(dU8 r11.a0.known.v.a2),(dU8 r11.a0.known.v.a3),(dU8 r11.a0.known.v.a4),(dU8 r11.a0.known.v.a5),(dU8 r11.a0.known.v.a6),(dU8 r11.a0.known.v.a7),(dI r11.a0.v),(dU8 r11.a0.l.a0),(dU8 r11.a0.l.a1),(dU8 r11.a0.l.a2),(dU8 r11.a0.l.a3),(dU8 r11.a0.l.a4),(dU8 r11.a0.l.a5),(dU8 r11.a0.l.a6),(dU8 r11.a0.l.a7),(fzE false (eI .i64) r11.a0.e),(fzE false (eI .i64) r11.a0.order),(dU8 r11.a1.known.which),(dU8 r11.a1.known.v.a0),(dU8 r11.a1.known.v.a1),(dU8 r11.a1.known.v.a2),(dU8 r11.a1.known.v.a3),(dU8 r11.a1.known.v.a4),(dU8 r11.a1.known.v.a5),(dU8 r11.a1.known.v.a6),(dU8 r11.a1.known.v.a7),(dI r11.a1.v),(dU8 r11.a1.l.a0),(dU8 r11.a1.l.a1),(dU8 r11.a1.l.a2),(dU8 r11.a1.l.a3),(dU8 r11.a1.l.a4),(dU8 r11.a1.l.a5),(dU8 r11.a1.l.a6),(dU8 r11.a1.l.a7),(fzE false (eI .i64) r11.a1.e),(fzE false (eI .i64) r11.a1.order),(dU8 r11.a2.known.which),(dU8 r11.a2.known.v.a0),(dU8 r11.a2.known.v.a1),(dU8 r11.a2.known.v.a2),(dU8 r11.a2.known.v.a3),(dU8 r11.a2.known.v.a4),(dU8 r11.a2.known.v.a5),(dU8 r11.a2.known.v.a6),(dU8 r11.a2.known.v.a7),(dI r11.a2.v),(dU8 r11.a2.l.a0),(dU8 r11.a2.l.a1),(dU8 r11.a2.l.a2),(dU8 r11.a2.l.a3),(dU8 r11.a2.l.a4),(dU8 r11.a2.l.a5),(dU8 r11.a2.l.a6),(dU8 r11.a2.l.a7),(fzE false (eI .i64) r11.a2.e),(fzE false (eI .i64) r11.a2.order),(dU8 r11.a3.known.which),(dU8 r11.a3.known.v.a0),(dU8 r11.a3.known.v.a1),(dU8 r11.a3.known.v.a2),(dU8 r11.a3.known.v.a3),(dU8 r11.a3.known.v.a4),(dU8 r11.a3.known.v.a5),(dU8 r11.a3.known.v.a6),(dU8 r11.a3.known.v.a7),(dI r11.a3.v),(dU8 r11.a3.l.a0),(dU8 r11.a3.l.a1),(dU8 r11.a3.l.a2),(dU8 r11.a3.l.a3),(dU8 r11.a3.l.a4),(dU8 r11.a3.l.a5),(dU8 r11.a3.l.a6),(dU8 r11.a3.l.a7),(fzE false (eI .i64) r11.a3.e),(fzE false (eI .i64) r11.a3.order)])),(26,(dI a))] [] [.cells [(dI x7.grain),(fzE true zaa x7.nodes)]]
   refine rdM hT119 (λn a=>zaW N r11 x7 n a=some o112) 0 j112 ?_;rintro n v26 j112;simp only[zaW]at j112;refine wTM hT119 ?_;cases c13:(decide (v26<4))
   .rw[c13,qdA]at j112;refine sSM ?_;replace j112:=qaf j112; subst j112;exact lfj hT112 rfl (wm0 [.k,.d,.k] ⟨MB.cs ⟨qdy,qdy,qdy,qdy⟩,⟨rfl,⟨MB.cs ⟨qdy,qdy,qdy,qdy,qdy,qdy,qdy,qdy,qdy,qdy,qdy,qdy,qdy,qdy,qdy,qdy,qdy,qdy,qdy,qdy,qdy⟩,qdy⟩⟩⟩)
   rw[c13,qdz]at j112;obtain⟨x14,g15,j112⟩:=bsM j112;obtain⟨r16,g17,j112⟩:=bsM j112;try simp only[rnA,Nat.reduceEqDiff,Nat.reduceLT,Nat.reduceAdd,Nat.reduceLeDiff,zbp g15,(show v26<((4:Nat):Int)from zfH g15),qbg,(show([(dU8 r11.a0.known.which),(dU8 r11.a0.known.v.a0),(dU8 r11.a0.known.v.a1),(dU8 r11.a0.known.v.a2),(dU8 r11.a0.known.v.a3),(dU8 r11.a0.known.v.a4),(dU8 r11.a0.known.v.a5),(dU8 r11.a0.known.v.a6),(dU8 r11.a0.known.v.a7),(dI r11.a0.v),(dU8 r11.a0.l.a0),(dU8 r11.a0.l.a1),(dU8 r11.a0.l.a2),(dU8 r11.a0.l.a3),(dU8 r11.a0.l.a4),(dU8 r11.a0.l.a5),(dU8 r11.a0.l.a6),(dU8 r11.a0.l.a7),(fzE false (eI .i64) r11.a0.e),(fzE false (eI .i64) r11.a0.order),(dU8 r11.a1.known.which),(dU8 r11.a1.known.v.a0),(dU8 r11.a1.known.v.a1),(dU8 r11.a1.known.v.a2),(dU8 r11.a1.known.v.a3),(dU8 r11.a1.known.v.a4),(dU8 r11.a1.known.v.a5),(dU8 r11.a1.known.v.a6),(dU8 r11.a1.known.v.a7),(dI r11.a1.v),(dU8 r11.a1.l.a0),(dU8 r11.a1.l.a1),(dU8 r11.a1.l.a2),(dU8 r11.a1.l.a3),(dU8 r11.a1.l.a4),(dU8 r11.a1.l.a5),(dU8 r11.a1.l.a6),(dU8 r11.a1.l.a7),(fzE false (eI .i64) r11.a1.e),(fzE false (eI .i64) r11.a1.order),(dU8 r11.a2.known.which),(dU8 r11.a2.known.v.a0),(dU8 r11.a2.known.v.a1),(dU8 r11.a2.known.v.a2),(dU8 r11.a2.known.v.a3),(dU8 r11.a2.known.v.a4),(dU8 r11.a2.known.v.a5),(dU8 r11.a2.known.v.a6),(dU8 r11.a2.known.v.a7),(dI r11.a2.v),(dU8 r11.a2.l.a0),(dU8 r11.a2.l.a1),(dU8 r11.a2.l.a2),(dU8 r11.a2.l.a3),(dU8 r11.a2.l.a4),(dU8 r11.a2.l.a5),(dU8 r11.a2.l.a6),(dU8 r11.a2.l.a7),(fzE false (eI .i64) r11.a2.e),(fzE false (eI .i64) r11.a2.order),(dU8 r11.a3.known.which),(dU8 r11.a3.known.v.a0),(dU8 r11.a3.known.v.a1),(dU8 r11.a3.known.v.a2),(dU8 r11.a3.known.v.a3),(dU8 r11.a3.known.v.a4),(dU8 r11.a3.known.v.a5),(dU8 r11.a3.known.v.a6),(dU8 r11.a3.known.v.a7),(dI r11.a3.v),(dU8 r11.a3.l.a0),(dU8 r11.a3.l.a1),(dU8 r11.a3.l.a2),(dU8 r11.a3.l.a3),(dU8 r11.a3.l.a4),(dU8 r11.a3.l.a5),(dU8 r11.a3.l.a6),(dU8 r11.a3.l.a7),(fzE false (eI .i64) r11.a3.e),(fzE false (eI .i64) r11.a3.order)].drop (v26.toNat * 20)).take 20=[(dU8 x14.known.which),(dU8 x14.known.v.a0),(dU8 x14.known.v.a1),(dU8 x14.known.v.a2),(dU8 x14.known.v.a3),(dU8 x14.known.v.a4),(dU8 x14.known.v.a5),(dU8 x14.known.v.a6),(dU8 x14.known.v.a7),(dI x14.v),(dU8 x14.l.a0),(dU8 x14.l.a1),(dU8 x14.l.a2),(dU8 x14.l.a3),(dU8 x14.l.a4),(dU8 x14.l.a5),(dU8 x14.l.a6),(dU8 x14.l.a7),(fzE false (eI .i64) x14.e),(fzE false (eI .i64) x14.order)]from zqZ (e:=zbS) (t:=false) rfl g15 rfl),(show v26.toNat * 20+20<=80 from zx3 (e:=zbS) rfl g15)]
   refine EvL.fn (zgz g17) rfl rfl (.cons (.zga (.cons (.lit _) (.cons (zdD _ _ (λh=>nomatch h)) .nil))) (.cons (zdD _ _ (λh=>nomatch h)) (.cons (.lit _) .nil))) ?_;obtain⟨r18,g19,j112⟩:=bsM j112;refine sSM ?_;refine fCM (zmN g19) ?_;obtain⟨o120,j120,j112⟩:=bsM j112;obtain⟨T120,hT120⟩:=zce hT119 λa:Bool=>uDM (T119 v26) [] [(10,(.ptr 4 0)),(11,(dU r16.1)),(12,(dI r16.2)),(13,(dI r18)),(56,(dB a))] [] [.cells [(dU8 x14.known.which),(dU8 x14.known.v.a0),(dU8 x14.known.v.a1),(dU8 x14.known.v.a2),(dU8 x14.known.v.a3),(dU8 x14.known.v.a4),(dU8 x14.known.v.a5),(dU8 x14.known.v.a6),(dU8 x14.known.v.a7),(dI x14.v),(dU8 x14.l.a0),(dU8 x14.l.a1),(dU8 x14.l.a2),(dU8 x14.l.a3),(dU8 x14.l.a4),(dU8 x14.l.a5),(dU8 x14.l.a6),(dU8 x14.l.a7),(fzE false (eI .i64) x14.e),(fzE false (eI .i64) x14.order)]]
   refine EvL.jn T120 (λa=>a=o120) ?_ ?_
   .refine wSM ?_;refine cBM j120 (λ_ j120=>?_) λ_ j120=>?_
    .obtain rfl:=qaf j120;exact⟨_,rfl,by rw[hT120]; exact wAM⟩
    refine cBM j120 (λ_ j120=>?_) λ_ j120=>?_
    .exact zcf j120 hT120
    exact zcf j120 hT120
   rintro v56 rfl;refine wTM hT120 ?_;obtain⟨o121,j121,j112⟩:=bsM j112;obtain⟨T121,hT121⟩:=zce hT120 λa:Int=>uDM (T120 v56) [13,56] [(13,(dI a))] [] []
   refine EvL.jn T121 _ (bJM j121 hT121) ?_;rintro v13 rfl;refine wTM hT121 ?_;obtain⟨o122,j122,j112⟩:=bsM j112;obtain⟨T122,hT122⟩:=zce hT119 λa:Bool=>uDM (T119 v26) [] [(81,(dB a))] [] []
   refine EvL.jn T122 (λa=>a=o122) ?_ ?_
   .refine wSM ?_;refine cBM j122 (λ_ j122=>?_) λ_ j122=>?_
    .refine EvL.skip rfl ?_;refine sSM ?_;exact zcf j122 hT122
    refine cBM j122 (λc24 j122=>?_) λc24 j122=>?_
    .refine cBM j122 (λ_ j122=>?_) λ_ j122=>?_
     .refine EvL.skip rfl ?_;refine sSM ?_;exact zcf j122 hT122
     refine sXM c24 ?_;refine EvL.skip rfl ?_;refine sSM ?_;exact zcf j122 hT122
    obtain⟨r26,g27,j122⟩:=bsM j122;refine sXM c24 ?_;refine fCM (zlt g27) ?_;exact zcf j122 hT122
   rintro v81 rfl;refine wTM hT122 ?_;refine cBM j112 (λ_ j112=>?_) λ_ j112=>?_
   .exact zct hT119 (w64 (v26+1)) j112
   obtain rfl:=qaf j112;obtain rfl:=qaf j61;exact rHM h
  rintro⟨⟩ rfl;dsimp only at j61;refine wTM hT112 ?_;exact zct hT102 (w64 (v19+1)) j61
 rintro⟨⟩ rfl;dsimp only at h;refine wTM hT61 ?_;exact rHM h
end Go.Dc
