/-
 What l09_nets computes. Conditions: none.
-/
import Derived.Test.YtbjogdohfhdaiaaGreatEcJ9
import Derived.Test.YtbjogdohfhdaiaaGreatEcJ4
import Derived.Test.YtbjogdohfhdaiaaGreatEcJ6
import Derived.Test.YtbjogdohfhdaiaaGreatEcJ5
set_option linter.unusedSimpArgs false
set_option linter.unusedVariables false
set_option maxRecDepth 100000
set_option maxHeartbeats 4000000
namespace Go.Dc
open Go Go.Mx Go.Lx Go.Proofs
def zfR(N:Nat)(p0:S_haruspexref05_Draft)(p1:S_haruspexref05_Bend):Option A2_S_api_Net:=
(zb2 N p0).bind λr1=>
(zo5 p1 r1).bind λr3=>
some (A2_S_api_Net.mk r1 r3)
variable{p0:S_haruspexref05_Draft}
theorem zpE{N:Nat}{p1:S_haruspexref05_Bend}{r:A2_S_api_Net}(h:zfR N p0 p1=some r):Lx.Fn mC 11 [(.agg [(dU8 p0.grain),(fzE false zaN p0.nodes),(fzE false (eI .u8) p0.order)]),(.agg [(dU8 p1.what),(dU8 p1.at_),(dU8 p1.row),(dI p1.n)])] (.agg [(dI r.a0.grain),(fzE true zaa r.a0.nodes),(dI r.a1.grain),(fzE true zaa r.a1.nodes)]):=by
 refine gnO ?_;unfold zfR at h;refine zad ?_;obtain⟨r1,g2,h⟩:=bsM h;refine sSM ?_;refine fCM (zgh g2) ?_;obtain⟨r3,g4,h⟩:=bsM h;refine sSM ?_;refine fCM (zAL g4) ?_;exact rHM h
def za5(r11:A4_S_haruspexlaw09_Ask)(x7:S_api_Net):Nat->Int->Option (Out Unit Bool)
 | 0,_=>none
 | n+1,v28=>(
bif (decide (v28<4))then(
(zaE [r11.a0,r11.a1,r11.a2,r11.a3] v28).bind λx14=>
(zbk x7 x14.e x14.v x14.order).bind λr16=>
(zcc x7 x14.e x14.v x14.order).bind λr18=>
bif (r16.2.2 == r18)then(
((bif (r16.2.2 == 0)then(
(zfN x7 x14.e x14.v x14.order).bind λr22=>
some (r22.1,r22.2))
else(
some (0,0)):Option ((Int×Int)))).bind λo=>match o with
|(v14,v15)=>(
((bif (r16.1 == v14)then(
some (!(r16.2.1 == v15)))
else(
some true):Option Bool)).bind λv73=>
bif v73 then(
some (.ret false))
else(
za5 r11 x7 n (w64 (v28+1)))))
else(
some (.ret false)))
else(
some (.go ())))
def za6(N:Nat)(r4:A2_S_api_Net)(p0:S_haruspexref05_Draft)(p2:S_haruspexlaw09_Ask):Nat->Int->Option (Out Unit Bool)
 | 0,_=>none
 | n+1,v21=>(
bif (decide (v21<2))then(
(zaE [r4.a0,r4.a1] v21).bind λx7=>
(zb2 N p0).bind λr9=>
(zc5 p2 r9).bind λr11=>
((za5 r11 x7 (4 - 0+2:Int).toNat 0:Option (Out Unit Bool))).bind λo=>match o with
| .go _=>(
za6 N r4 p0 p2 n (w64 (v21+1)))
| .ret r=>some (.ret r))
else(
some (.go ())))
def zcn(N:Nat)(p0:S_haruspexref05_Draft)(p1:S_haruspexref05_Bend)(p2:S_haruspexlaw09_Ask):Option Bool:=
(zpZ).bind λr1=>
bif r1 then(
(zfR N p0 p1).bind λr4=>
((za6 N r4 p0 p2 (2 - 0+2:Int).toNat 0:Option (Out Unit Bool))).bind λo=>match o with
| .go _=>(
some true)
| .ret r=>some r)
else(
some false)
theorem zgy{N:Nat}{p1:S_haruspexref05_Bend}{p2:S_haruspexlaw09_Ask}{r:Bool}(h:zcn N p0 p1 p2=some r):Lx.Fn mC 4 [(.agg [(dU8 p0.grain),(fzE false zaN p0.nodes),(fzE false (eI .u8) p0.order)]),(.agg [(dU8 p1.what),(dU8 p1.at_),(dU8 p1.row),(dI p1.n)]),(.agg [(dU8 p2.known.which),(dU8 p2.known.v.a0),(dU8 p2.known.v.a1),(dU8 p2.known.v.a2),(dU8 p2.known.v.a3),(dU8 p2.known.v.a4),(dU8 p2.known.v.a5),(dU8 p2.known.v.a6),(dU8 p2.known.v.a7),(dI p2.v),(dU8 p2.l.a0),(dU8 p2.l.a1),(dU8 p2.l.a2),(dU8 p2.l.a3),(dU8 p2.l.a4),(dU8 p2.l.a5),(dU8 p2.l.a6),(dU8 p2.l.a7),(fzE false (eI .i64) p2.e),(fzE false (eI .i64) p2.order)])] (dB r):=by
 refine gnO ?_;unfold zcn at h;refine zad ?_;obtain⟨r1,g2,h⟩:=bsM h;refine sSM ?_;refine fCM (zzg g2) ?_;refine cBM h (λ_ h=>?_) λ_ h=>?_
 .exact rHM h
 obtain⟨r4,g5,h⟩:=bsM h;refine sSM ?_;refine fCM (zpE g5) ?_;obtain⟨o43,j43,h⟩:=bsM h;refine usM [] 0 (λa:Unit=>([],[],[])) λT43 hT43=>?_
 refine EvL.jn T43 (λa=>o43=.go a) ?_ ?_
 .refine wSM ?_;refine usM [3,5,20] 3 (λa:Int=>([(21,(dI a))],[(1,.gone)],[])) λT72 hT72=>?_
  refine rdM hT72 (λn a=>za6 N r4 p0 p2 n a=some o43) 0 j43 ?_;rintro n v21 j43;simp only[za6]at j43;refine wTM hT72 ?_;cases c6:(decide (v21<2))
  .rw[c6,qdu]at j43;refine sSM ?_;replace j43:=qae j43; subst j43;exact lfj hT43 rfl (wm0 [] (by exact trivial))
  rw[c6,qdt]at j43;obtain⟨x7,g8,r9,g10,j43⟩:=zfo j43;try simp only[rnA,Nat.reduceEqDiff,Nat.reduceLT,Nat.reduceAdd,Nat.reduceLeDiff,zaZ g8,(show v21<((2:Nat):Int)from zd6 g8),qbG,(show([(dI r4.a0.grain),(fzE true zaa r4.a0.nodes),(dI r4.a1.grain),(fzE true zaa r4.a1.nodes)].drop (v21.toNat * 2)).take 2=[(dI x7.grain),(fzE true zaa x7.nodes)]from zsg (e:=ziR) (t:=true) rfl g8 rfl),(show v21.toNat * 2+2<=4 from zAp (e:=ziR) rfl g8)]
  refine EvL.fn (zgh g10) rfl rfl (.cons (.zup (.cons (.lit _) (.cons (zcY _ _ (λh=>nomatch h)) (.cons (zcY _ _ (λh=>nomatch h)) .nil)))) .nil) ?_;obtain⟨r11,g12,j43⟩:=bsM j43;refine sSM ?_;refine fDM (zjd g12) ?_;obtain⟨o79,j79,j43⟩:=bsM j43;obtain⟨T79,hT79⟩:=zcC hT72 λa:Unit=>uDM (T72 v21) [] [] [] []
  refine EvL.jn T79 (λa=>o79=.go a) ?_ ?_
  .refine wSM ?_;obtain⟨T84,hT84⟩:=zcC hT72 λa:Int=>uDM (T72 v21) [] [(8,(.ptr 3 0)),(27,(.agg [(dU8 r11.a0.known.which),(dU8 r11.a0.known.v.a0),(dU8 r11.a0.known.v.a1),(dU8 r11.a0.known.v.a2),(dU8 r11.a0.known.v.a3),(dU8 r11.a0.known.v.a4),(dU8 r11.a0.known.v.a5),(dU8 r11.a0.known.v.a6),(dU8 r11.a0.known.v.a7),(dI r11.a0.v),(dU8 r11.a0.l.a0),(dU8 r11.a0.l.a1),(dU8 r11.a0.l.a2),(dU8 r11.a0.l.a3),(dU8 r11.a0.l.a4),(dU8 r11.a0.l.a5),(dU8 r11.a0.l.a6),(dU8 r11.a0.l.a7),(fzE false (eI .i64) r11.a0.e),(fzE false (eI .i64) r11.a0.order),(dU8 r11.a1.known.which),(dU8 r11.a1.known.v.a0),(dU8 r11.a1.known.v.a1),(dU8 r11.a1.known.v.a2),(dU8 r11.a1.known.v.a3),(dU8 r11.a1.known.v.a4),(dU8 r11.a1.known.v.a5),(dU8 r11.a1.known.v.a6),(dU8 r11.a1.known.v.a7),(dI r11.a1.v),(dU8 r11.a1.l.a0),(dU8 r11.a1.l.a1),(dU8 r11.a1.l.a2),(dU8 r11.a1.l.a3),(dU8 r11.a1.l.a4),(dU8 r11.a1.l.a5),(dU8 r11.a1.l.a6),(dU8 r11.a1.l.a7),(fzE false (eI .i64) r11.a1.e),(fzE false (eI .i64) r11.a1.order),(dU8 r11.a2.known.which),(dU8 r11.a2.known.v.a0),(dU8 r11.a2.known.v.a1),(dU8 r11.a2.known.v.a2),(dU8 r11.a2.known.v.a3),(dU8 r11.a2.known.v.a4),(dU8 r11.a2.known.v.a5),(dU8 r11.a2.known.v.a6),(dU8 r11.a2.known.v.a7),(dI r11.a2.v),(dU8 r11.a2.l.a0),(dU8 r11.a2.l.a1),(dU8 r11.a2.l.a2),(dU8 r11.a2.l.a3),(dU8 r11.a2.l.a4),(dU8 r11.a2.l.a5),(dU8 r11.a2.l.a6),(dU8 r11.a2.l.a7),(fzE false (eI .i64) r11.a2.e),(fzE false (eI .i64) r11.a2.order),(dU8 r11.a3.known.which),(dU8 r11.a3.known.v.a0),(dU8 r11.a3.known.v.a1),(dU8 r11.a3.known.v.a2),(dU8 r11.a3.known.v.a3),(dU8 r11.a3.known.v.a4),(dU8 r11.a3.known.v.a5),(dU8 r11.a3.known.v.a6),(dU8 r11.a3.known.v.a7),(dI r11.a3.v),(dU8 r11.a3.l.a0),(dU8 r11.a3.l.a1),(dU8 r11.a3.l.a2),(dU8 r11.a3.l.a3),(dU8 r11.a3.l.a4),(dU8 r11.a3.l.a5),(dU8 r11.a3.l.a6),(dU8 r11.a3.l.a7),(fzE false (eI .i64) r11.a3.e),(fzE false (eI .i64) r11.a3.order)])),(28,(dI a))] [] [.cells [(dI x7.grain),(fzE true zaa x7.nodes)]]
   refine rdM hT84 (λn a=>za5 r11 x7 n a=some o79) 0 j79 ?_;rintro n v28 j79;simp only[za5]at j79;refine wTM hT84 ?_;cases c13:(decide (v28<4))
   .rw[c13,qdu]at j79;refine sSM ?_;replace j79:=qae j79; subst j79;exact lfj hT79 rfl (wm0 [.k,.d,.k] ⟨MB.cs ⟨qds,qds,qds,qds⟩,⟨rfl,⟨MB.cs ⟨qds,qds,qds,qds,qds,qds,qds,qds,qds,qds,qds,qds,qds,qds,qds,qds,qds,qds,qds,qds,qds⟩,qds⟩⟩⟩)
   rw[c13,qdt]at j79;obtain⟨x14,g15,r16,g17,j79⟩:=zfo j79;try simp only[rnA,Nat.reduceEqDiff,Nat.reduceLT,Nat.reduceAdd,Nat.reduceLeDiff,zaZ g15,(show v28<((4:Nat):Int)from zd6 g15),qbG,(show([(dU8 r11.a0.known.which),(dU8 r11.a0.known.v.a0),(dU8 r11.a0.known.v.a1),(dU8 r11.a0.known.v.a2),(dU8 r11.a0.known.v.a3),(dU8 r11.a0.known.v.a4),(dU8 r11.a0.known.v.a5),(dU8 r11.a0.known.v.a6),(dU8 r11.a0.known.v.a7),(dI r11.a0.v),(dU8 r11.a0.l.a0),(dU8 r11.a0.l.a1),(dU8 r11.a0.l.a2),(dU8 r11.a0.l.a3),(dU8 r11.a0.l.a4),(dU8 r11.a0.l.a5),(dU8 r11.a0.l.a6),(dU8 r11.a0.l.a7),(fzE false (eI .i64) r11.a0.e),(fzE false (eI .i64) r11.a0.order),(dU8 r11.a1.known.which),(dU8 r11.a1.known.v.a0),(dU8 r11.a1.known.v.a1),(dU8 r11.a1.known.v.a2),(dU8 r11.a1.known.v.a3),(dU8 r11.a1.known.v.a4),(dU8 r11.a1.known.v.a5),(dU8 r11.a1.known.v.a6),(dU8 r11.a1.known.v.a7),(dI r11.a1.v),(dU8 r11.a1.l.a0),(dU8 r11.a1.l.a1),(dU8 r11.a1.l.a2),(dU8 r11.a1.l.a3),(dU8 r11.a1.l.a4),(dU8 r11.a1.l.a5),(dU8 r11.a1.l.a6),(dU8 r11.a1.l.a7),(fzE false (eI .i64) r11.a1.e),(fzE false (eI .i64) r11.a1.order),(dU8 r11.a2.known.which),(dU8 r11.a2.known.v.a0),(dU8 r11.a2.known.v.a1),(dU8 r11.a2.known.v.a2),(dU8 r11.a2.known.v.a3),(dU8 r11.a2.known.v.a4),(dU8 r11.a2.known.v.a5),(dU8 r11.a2.known.v.a6),(dU8 r11.a2.known.v.a7),(dI r11.a2.v),(dU8 r11.a2.l.a0),(dU8 r11.a2.l.a1),(dU8 r11.a2.l.a2),(dU8 r11.a2.l.a3),(dU8 r11.a2.l.a4),(dU8 r11.a2.l.a5),(dU8 r11.a2.l.a6),(dU8 r11.a2.l.a7),(fzE false (eI .i64) r11.a2.e),(fzE false (eI .i64) r11.a2.order),(dU8 r11.a3.known.which),(dU8 r11.a3.known.v.a0),(dU8 r11.a3.known.v.a1),(dU8 r11.a3.known.v.a2),(dU8 r11.a3.known.v.a3),(dU8 r11.a3.known.v.a4),(dU8 r11.a3.known.v.a5),(dU8 r11.a3.known.v.a6),(dU8 r11.a3.known.v.a7),(dI r11.a3.v),(dU8 r11.a3.l.a0),(dU8 r11.a3.l.a1),(dU8 r11.a3.l.a2),(dU8 r11.a3.l.a3),(dU8 r11.a3.l.a4),(dU8 r11.a3.l.a5),(dU8 r11.a3.l.a6),(dU8 r11.a3.l.a7),(fzE false (eI .i64) r11.a3.e),(fzE false (eI .i64) r11.a3.order)].drop (v28.toNat * 20)).take 20=[(dU8 x14.known.which),(dU8 x14.known.v.a0),(dU8 x14.known.v.a1),(dU8 x14.known.v.a2),(dU8 x14.known.v.a3),(dU8 x14.known.v.a4),(dU8 x14.known.v.a5),(dU8 x14.known.v.a6),(dU8 x14.known.v.a7),(dI x14.v),(dU8 x14.l.a0),(dU8 x14.l.a1),(dU8 x14.l.a2),(dU8 x14.l.a3),(dU8 x14.l.a4),(dU8 x14.l.a5),(dU8 x14.l.a6),(dU8 x14.l.a7),(fzE false (eI .i64) x14.e),(fzE false (eI .i64) x14.order)]from zsg (e:=zcp) (t:=false) rfl g15 rfl),(show v28.toNat * 20+20<=80 from zAp (e:=zcp) rfl g15)]
   refine EvL.fn (zi0 g17) rfl rfl (.cons (.zup (.cons (.lit _) (.cons (zcY _ _ (λh=>nomatch h)) .nil))) (.cons (zcY _ _ (λh=>nomatch h)) (.cons (.lit _) (.cons (zcY _ _ (λh=>nomatch h)) .nil)))) ?_;obtain⟨r18,g19,j79⟩:=bsM j79;refine sSM ?_;refine fCM (zl3 g19) ?_;refine cBM j79 (λ_ j79=>?_) λ_ j79=>?_
   .obtain rfl:=qae j79;obtain rfl:=qae j43;exact rHM h
   obtain⟨o85,j85,j79⟩:=bsM j79;obtain⟨T85,hT85⟩:=zcC hT84 λa:(Int×Int)=>uDM (T84 v28) [] [(11,(dI r16.1)),(12,(dI r16.2.1)),(14,(dI a.1)),(15,(dI a.2))] [] []
   refine EvL.jn T85 (λa=>a=o85) ?_ ?_
   .refine wSM ?_;refine cBM j85 (λ_ j85=>?_) λ_ j85=>?_
    .obtain rfl:=qae j85;exact⟨_,rfl,by rw[hT85]; exact wAM⟩
    obtain⟨r22,g23,j85⟩:=bsM j85;refine sSM ?_;refine fCM (zpU g23) ?_;exact zch j85 hT85
   rintro⟨v14,v15⟩ rfl;dsimp only at j79;refine wTM hT85 ?_;obtain⟨o86,j86,j79⟩:=bsM j79;obtain⟨T86,hT86⟩:=zcC hT84 λa:Bool=>uDM (T84 v28) [] [(73,(dB a))] [] []
   refine EvL.jn T86 _ (bJM j86 hT86) ?_;rintro v73 rfl;refine wTM hT86 ?_;refine cBM j79 (λ_ j79=>?_) λ_ j79=>?_
   .exact zcr hT84 (w64 (v28+1)) j79
   obtain rfl:=qae j79;obtain rfl:=qae j43;exact rHM h
  rintro⟨⟩ rfl;dsimp only at j43;refine wTM hT79 ?_;exact zcr hT72 (w64 (v21+1)) j43
 rintro⟨⟩ rfl;dsimp only at h;refine wTM hT43 ?_;exact rHM h
end Go.Dc
