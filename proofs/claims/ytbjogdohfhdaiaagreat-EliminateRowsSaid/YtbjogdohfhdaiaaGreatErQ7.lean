/-
 What l09_EliminateRows computes. Conditions: none.
-/
import Derived.Test.YtbjogdohfhdaiaaGreatErJ12
import Derived.Test.YtbjogdohfhdaiaaGreatErJ7
import Derived.Test.YtbjogdohfhdaiaaGreatErJ8
set_option linter.unusedSimpArgs false
set_option linter.unusedVariables false
set_option maxRecDepth 100000
set_option maxHeartbeats 4000000
namespace Go.Dc
open Go Go.Mx Go.Lx Go.Proofs
def zbm(p2:A3_S_haruspexref05_Bend)(r4:S_api_Net)(r12:(Int×Int)):Nat->Int->Int->(List S_api_Node)->Option (Int×(List S_api_Node))
 | 0,_,_,_=>none
 | n+1,v67,b4_0,b4_1=>(
bif (decide (v67<3))then(
(zaE [p2.a0,p2.a1,p2.a2] v67).bind λx20=>
(zp3 (w64 x20.at_) (r4.nodes.length:Int)).bind λq22=>
(ziN .u64 r12.1 q22).bind λq24=>
((bif ((ziv .u64 q24 1)== 0)then(
(zog (S_haruspexref05_Bend.mk (IntKind.u8.wrap (8+(x20.what.tmod 2))) x20.at_ x20.row x20.n) (S_api_Net.mk b4_0 b4_1)).bind λr27=>
some (r27.grain,r27.nodes))
else(
some (b4_0,b4_1)):Option ((Int×(List S_api_Node))))).bind λo=>match o with
|(b4_0',b4_1')=>(
zbm p2 r4 r12 n (w64 (v67+1)) b4_0' b4_1'))
else(
some (b4_0,b4_1)))
def zcG(N:Nat)(p0:S_haruspexref05_Draft)(p1:S_haruspexlaw09_Ask)(p2:A3_S_haruspexref05_Bend):Option Bool:=
(zqg).bind λr1=>
bif r1 then(
(zc4 N p0).bind λr4=>
(zcj p1.known r4).bind λr6=>
(zcl p1 (r4.nodes.length:Int)).bind λr8=>
(zdb (r4.nodes.length:Int) r8 p1.l).bind λr10=>
(zce N r4 r6 r8).bind λr12=>
(zbt N r4 r6 r8 r10).bind λr14=>
((bif (r12.2 == 0)then(
bif (r14.2 == 0)then(
some false)
else(
some (!(r14.2 == 7))))
else(
some true):Option Bool)).bind λv64=>
bif v64 then(
some false)
else(
((zbm p2 r4 r12 (3 - 0+2:Int).toNat 0 r4.grain r4.nodes:Option ((Int×(List S_api_Node))))).bind λo=>match o with
|(b4_0,b4_1)=>(
(zbt N (S_api_Net.mk b4_0 b4_1) r6 r8 r10).bind λr29=>
((bif (r29.2 == 0)then(
some false)
else(
some (!(r29.2 == 7))):Option Bool)).bind λv103=>
bif v103 then(
some false)
else(
((bif (r14.2 == 0)then(
bif (r29.2 == 0)then(
(zaE r4.nodes r8).bind λx35=>
bif ((r14.1.length:Int)== x35.zaF)then(
(zkS r14.1 r29.1).bind λr38=>
some r38)
else(
some false))
else(
some true))
else(
some true):Option Bool)).bind λv6=>
some v6))))
else(
some false)
theorem zhn{N:Nat}{p0:S_haruspexref05_Draft}{p1:S_haruspexlaw09_Ask}{p2:A3_S_haruspexref05_Bend}{r:Bool}(h:zcG N p0 p1 p2=some r):Lx.Fn mC 7 [(.agg [(dU8 p0.grain),(fzE false za3 p0.nodes),(fzE false (eI .u8) p0.order)]),(.agg [(dU8 p1.known.which),(dU8 p1.known.v.a0),(dU8 p1.known.v.a1),(dU8 p1.known.v.a2),(dU8 p1.known.v.a3),(dU8 p1.known.v.a4),(dU8 p1.known.v.a5),(dU8 p1.known.v.a6),(dU8 p1.known.v.a7),(dI p1.v),(dU8 p1.l.a0),(dU8 p1.l.a1),(dU8 p1.l.a2),(dU8 p1.l.a3),(dU8 p1.l.a4),(dU8 p1.l.a5),(dU8 p1.l.a6),(dU8 p1.l.a7),(fzE false (eI .i64) p1.e),(fzE false (eI .i64) p1.order)]),(.agg [(dU8 p2.a0.what),(dU8 p2.a0.at_),(dU8 p2.a0.row),(dI p2.a0.n),(dU8 p2.a1.what),(dU8 p2.a1.at_),(dU8 p2.a1.row),(dI p2.a1.n),(dU8 p2.a2.what),(dU8 p2.a2.at_),(dU8 p2.a2.row),(dI p2.a2.n)])] (dB r):=by
 refine gnO ?_;unfold zcG at h;refine zad ?_;obtain⟨r1,g2,h⟩:=bsM h;refine sSM ?_;refine fCM (zzv g2) ?_;refine cBM h (λ_ h=>?_) λ_ h=>?_
 .exact rHM h
 obtain⟨r4,g5,h⟩:=bsM h;refine sSM ?_;refine fCM (zjF g5) ?_;obtain⟨r6,g7,h⟩:=bsM h;refine sSM ?_;refine fCM (zke g7) ?_;obtain⟨r8,g9,h⟩:=bsM h;refine sSM ?_;refine fCM (zj4 g9) ?_;obtain⟨r10,g11,h⟩:=bsM h;refine sSM ?_;refine fCM (zmz g11) ?_;obtain⟨r12,g13,h⟩:=bsM h;refine sSM ?_;refine fCM (zhz g13) ?_;obtain⟨r14,g15,h⟩:=bsM h;refine sSM ?_;refine fCM (zed g15) ?_;obtain⟨o1,j1,h⟩:=bsM h;obtain⟨T1,hT1⟩:=mkT λa:Bool=>⟨126,[(5,(.ptr 2 0)),(7,(.ptr 3 0)),(8,(fzE true (eI .i64) r6)),(9,(dI r8)),(10,(fzE true (eI .i64) r10)),(11,(dU r12.1)),(13,(fzE true zbZ r14.1)),(14,(dI r14.2)),(64,(dB a))],[.gone,.gone,.cells [(dU8 p2.a0.what),(dU8 p2.a0.at_),(dU8 p2.a0.row),(dI p2.a0.n),(dU8 p2.a1.what),(dU8 p2.a1.at_),(dU8 p2.a1.row),(dI p2.a1.n),(dU8 p2.a2.what),(dU8 p2.a2.at_),(dU8 p2.a2.row),(dI p2.a2.n)],.cells [(dI r4.grain),(fzE true zab r4.nodes)]]⟩
 refine EvL.jn T1 _ (bJM j1 hT1) ?_;rintro v64 rfl;refine wTM hT1 ?_;refine cBM h (λ_ h=>?_) λ_ h=>?_
 .obtain⟨o5,j5,h⟩:=bsM h;obtain⟨T5,hT5⟩:=zdp hT1 λa:(Int×(List S_api_Node))=>uDM (T1 v64) [5,11,64] [(15,(.ptr 4 0))] [(2,.gone)] [.cells [(dI a.1),(fzE true zab a.2)]]
  refine EvL.jn T5 (λa=>a=o5) ?_ ?_
  .refine wSM ?_;obtain⟨T8,hT8⟩:=zdp hT1 λa:(Int×Int×(List S_api_Node))=>uDM (T1 v64) [5,64] [(15,(.ptr 4 0)),(66,(.agg [(dU8 p2.a0.what),(dU8 p2.a0.at_),(dU8 p2.a0.row),(dI p2.a0.n),(dU8 p2.a1.what),(dU8 p2.a1.at_),(dU8 p2.a1.row),(dI p2.a1.n),(dU8 p2.a2.what),(dU8 p2.a2.at_),(dU8 p2.a2.row),(dI p2.a2.n)])),(67,(dI a.1))] [(2,.gone)] [.cells [(dI a.2.1),(fzE true zab a.2.2)]]
   refine rdM hT8 (λn a=>zbm p2 r4 r12 n a.1 a.2.1 a.2.2=some o5) (0,r4.grain,r4.nodes) j5 ?_;rintro n ⟨v67,b4_0,b4_1⟩ j5;simp only[zbm]at j5;refine wTM hT8 ?_;cases c19:(decide (v67<3))
   .rw[c19,qdu]at j5;refine sSM ?_;replace j5:=qaf j5; subst j5;exact lfj hT5 rfl (wm0 [.d,.d,.d,.k,.k] ⟨rfl,⟨rfl,⟨rfl,⟨MB.cs ⟨qds,qds,qds⟩,⟨MB.cs ⟨qds,qds,qds⟩,qds⟩⟩⟩⟩⟩)
   rw[c19,qdt]at j5;obtain⟨x20,g21,j5⟩:=bsM j5;obtain⟨q22,g23,j5⟩:=bsM j5;obtain⟨q24,g25,j5⟩:=bsM j5;try simp only[rnA,Nat.reduceEqDiff,Nat.reduceLT,Nat.reduceAdd,Nat.reduceLeDiff,Int.reduceBEq,za2 g21,(show v67<((3:Nat):Int)from zeh g21),qbA,(show([(dU8 p2.a0.what),(dU8 p2.a0.at_),(dU8 p2.a0.row),(dI p2.a0.n),(dU8 p2.a1.what),(dU8 p2.a1.at_),(dU8 p2.a1.row),(dI p2.a1.n),(dU8 p2.a2.what),(dU8 p2.a2.at_),(dU8 p2.a2.row),(dI p2.a2.n)].drop (v67.toNat * 4)).take 4=[(dU8 x20.what),(dU8 x20.at_),(dU8 x20.row),(dI x20.n)]from zy2 (e:=zbs) (t:=true) rfl g21 rfl),(show v67.toNat * 4+4<=12 from zFS (e:=zbs) rfl g21),zbN,zhy g23,zgD g23,(zaX g25).1,(zaX g25).2]
   obtain⟨o9,j9,j5⟩:=bsM j5;obtain⟨T9,hT9⟩:=mkT λa:(Int×(List S_api_Node))=>⟨126,[(7,(.ptr 3 0)),(8,(fzE true (eI .i64) r6)),(9,(dI r8)),(10,(fzE true (eI .i64) r10)),(11,(dU r12.1)),(13,(fzE true zbZ r14.1)),(14,(dI r14.2)),(15,(.ptr 4 0)),(66,(.agg [(dU8 p2.a0.what),(dU8 p2.a0.at_),(dU8 p2.a0.row),(dI p2.a0.n),(dU8 p2.a1.what),(dU8 p2.a1.at_),(dU8 p2.a1.row),(dI p2.a1.n),(dU8 p2.a2.what),(dU8 p2.a2.at_),(dU8 p2.a2.row),(dI p2.a2.n)])),(67,(dI v67))],[.gone,.gone,.gone,.cells [(dI r4.grain),(fzE true zab r4.nodes)],.cells [(dI a.1),(fzE true zab a.2)]]⟩
   refine EvL.jn T9 (λa=>a=o9) ?_ ?_
   .refine wSM ?_;refine cBM j9 (λ_ j9=>?_) λ_ j9=>?_
    .obtain rfl:=qaf j9;exact zcz hT9 _ rfl
    obtain⟨r27,g28,j9⟩:=bsM j9;refine sSM ?_;refine fCM (zBD g28) ?_;exact zde j9 hT9
   rintro⟨b4_0',b4_1'⟩ rfl;dsimp only at j5;refine wTM hT9 ?_;exact zcz hT8 ((w64 (v67+1)),b4_0',b4_1') j5
  rintro⟨b4_0,b4_1⟩ rfl;dsimp only at h;refine wTM hT5 ?_;obtain⟨r29,g30,h⟩:=bsM h;refine sSM ?_;refine fCM (zed g30) ?_;obtain⟨o10,j10,h⟩:=bsM h;obtain⟨T10,hT10⟩:=zdp hT1 λa:Bool=>uKM (T1 v64) [7,9,13,14] [(18,(fzE true zbZ r29.1)),(19,(dI r29.2)),(103,(dB a))] [(2,.gone)] []
  refine EvL.jn T10 _ (bJM j10 hT10) ?_;rintro v103 rfl;refine wTM hT10 ?_;refine cBM h (λ_ h=>?_) λ_ h=>?_
  .obtain⟨o11,j11,h⟩:=bsM h;obtain⟨T11,hT11⟩:=mkT λa:Bool=>⟨126,[(6,(dB a))],[]⟩
   refine EvL.jn T11 (λa=>a=o11) ?_ ?_
   .refine wSM ?_;refine cBM j11 (λ_ j11=>?_) λ_ j11=>?_
    .refine EvL.skip rfl ?_;refine sSM ?_;exact zde j11 hT11
    refine cBM j11 (λ_ j11=>?_) λ_ j11=>?_
    .refine EvL.skip rfl ?_;refine sSM ?_;exact zde j11 hT11
    obtain⟨x35,g36,j11⟩:=bsM j11;refine sXM (anM @zaj (zaz (n:=3) (e:=zab) rfl g36)) ?_;refine cBM j11 (λ_ j11=>?_) λ_ j11=>?_
    .refine EvL.skip rfl ?_;refine sSM ?_;exact zde j11 hT11
    obtain⟨r38,g39,j11⟩:=bsM j11;refine sSM ?_;refine fCM (zyK g39) ?_;exact zde j11 hT11
   rintro v6 rfl;refine wTM hT11 ?_;exact rHM h
  exact rHM h
 exact rHM h
end Go.Dc
