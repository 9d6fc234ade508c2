/-
 What r05_Down computes. Conditions: none.
-/
import Derived.Test.YtifdmgbehogecaaNwJ5
set_option linter.unusedSimpArgs false
set_option linter.unusedVariables false
set_option maxRecDepth 100000
set_option maxHeartbeats 4000000
namespace Go.Dc
open Go Go.Mx Go.Lx Go.Proofs
def za1(p3:Int)(q14:Int)(v18:Int)(x7:S_api_Net):Nat→Bool→Int→Option (Out Bool Bool)
 | 0,_,_=>none
 | n+1,v17',v49=>(
bif (decide (v49<2))then(
(zaF [p3,q14] v49).bind fun x17=>
((bif v17' then(
((bif (decide (x17<0))then(
some true)
else(
some (decide (v18≤x17))):Option Bool)).bind fun v55=>
bif v55 then(
some (true,2))
else(
some (true,0)))
else(
some (false,50)):Option ((Bool×Int)))).bind fun o=>match o with
|(v17'',v21)=>(
(zbw x7 x17).bind fun r22=>
(zbv x7 x17).bind fun r24=>
((bif (v21 == 0)then(
((bif (r22.2 == 0)then(
(zcb x7 x17).bind fun r32=>
(zeg r22.1 r32).bind fun r34=>
bif r34 then(
(zdd x7 x17).bind fun r37=>
(zdl r24.1 r24.2 0 r37).bind fun r39=>
some (!r39))
else(
some true))
else(
some true):Option Bool)).bind fun v112=>
bif v112 then(
some (.ret false))
else(
some (.go ())))
else(
((bif ((r22.1.length:Int)== 0)then(
bif (r22.2 == v21)then(
bif (r24.1 == 0)then(
some (!(r24.2 == v21)))
else(
some true))
else(
some true))
else(
some true):Option Bool)).bind fun v93=>
bif v93 then(
some (.ret false))
else(
some (.go ()))):Option (Out Unit Bool))).bind fun o=>match o with
| .go _=>(
za1 p3 q14 v18 x7 n v17'' (w64 (v49+1)))
| .ret r=>some (.ret r)))
else(
some (.go v17')))
def za0(y42:(List Int))(r46:(List Int))(x7:S_api_Net):Nat→Bool→Int→Option (Out Unit Bool)
 | 0,_,_=>none
 | n+1,v17'',v124=>(
bif (decide (v124<2))then(
(zaF [y42,r46] v124).bind fun x49=>
((bif v17'' then(
(zcu x7 x49).bind fun r52=>
bif r52 then(
some (true,0))
else(
some (true,2)))
else(
some (false,50)):Option ((Bool×Int)))).bind fun o=>match o with
|(v17''',v28)=>(
(zaR x7 x49).bind fun r55=>
bif (r55 == v28)then(
za0 y42 r46 x7 n v17''' (w64 (v124+1)))
else(
some (.ret false))))
else(
some (.go ())))
def zbt(N:Nat)(r4:A3_S_api_Net)(p4:Int)(p3:Int)(p5:(List Int))(p1:S_haruspexref05_Draft)(p6:S_haruspexref05_Known):Nat→Int→Option (Out Unit Bool)
 | 0,_=>none
 | n+1,v35=>(
bif (decide (v35<3))then(
(zaF [r4.a0,r4.a1,r4.a2] v35).bind fun x7=>
(zcZ x7).bind fun r9=>
((bif r9 then(
(zdj x7).bind fun r12=>
some (true,r12))
else(
some (false,1)):Option ((Bool×Int)))).bind fun o=>match o with
|(v17,v18)=>(
(zj6 (w64 p4) v18).bind fun q14=>
((za1 p3 q14 v18 x7 (2 - 0+2:Int).toNat v17 0:Option (Out Bool Bool))).bind fun o=>match o with
| .go v17'=>(
(zcX p5 0 (zcA (p5.length:Int) 9)).bind fun y42=>
(zbn N p1).bind fun r44=>
(zcv p6 r44).bind fun r46=>
((za0 y42 r46 x7 (2 - 0+2:Int).toNat v17' 0:Option (Out Unit Bool))).bind fun o=>match o with
| .go _=>(
zbt N r4 p4 p3 p5 p1 p6 n (w64 (v35+1)))
| .ret r=>some (.ret r))
| .ret r=>some (.ret r)))
else(
some (.go ())))
def zcJ(N:Nat)(p0:S_api_Net)(p1:S_haruspexref05_Draft)(p2:S_haruspexref05_Bend)(p3:Int)(p4:Int)(p5:(List Int))(p6:S_haruspexref05_Known):Option Bool:=
(zlK).bind fun r1=>
bif r1 then(
(zes N p0 p1 p2).bind fun r4=>
((zbt N r4 p4 p3 p5 p1 p6 (3 - 0+2:Int).toNat 0:Option (Out Unit Bool))).bind fun o=>match o with
| .go _=>(
some true)
| .ret r=>some r)
else(
some false)
theorem zgP{N:Nat}{p0:S_api_Net}{p1:S_haruspexref05_Draft}{p2:S_haruspexref05_Bend}{p3:Int}{p4:Int}{p5:(List Int)}{p6:S_haruspexref05_Known}{r:Bool}(h:zcJ N p0 p1 p2 p3 p4 p5 p6=some r):Lx.Fn mC 3 [(.agg [(dI p0.grain),(fzE false zaa p0.nodes)]),(.agg [(dU8 p1.grain),(fzE false zae p1.nodes),(fzE false (eI .u8) p1.order)]),(.agg [(dU8 p2.what),(dU8 p2.at_),(dU8 p2.row),(dI p2.n)]),(dI p3),(.lit (.int .u16 p4)),(fzE false (eI .i64) p5),(.agg [(dU8 p6.which),(dU8 p6.v.a0),(dU8 p6.v.a1),(dU8 p6.v.a2),(dU8 p6.v.a3),(dU8 p6.v.a4),(dU8 p6.v.a5),(dU8 p6.v.a6),(dU8 p6.v.a7)])] (dB r):=by
 refine fnO (by conv=>lhs; cbv) ?_;unfold zcJ at h;refine zab ?_;obtain⟨r1,g2,h⟩:=bind_some h;try simp only[rnA,Nat.reduceEqDiff,Nat.reduceLT,Nat.reduceAdd,reduceCtorEq]
 refine EvL.fn (zsl g2) rfl rfl .nil ?_;try simp only[rnA,Nat.reduceEqDiff,Nat.reduceLT,reduceCtorEq]
 cases c3:r1
 ·rw[c3,cond_false]at h;try simp only[rnA,Nat.reduceLT]
  replace h:=qab h; subst h;exact zbe.ret rfl (.lit _)
 rw[c3,cond_true]at h;obtain⟨r4,g5,h⟩:=bind_some h;try simp only[rnA,Nat.reduceEqDiff,Nat.reduceLT,Nat.reduceAdd,Nat.reduceLeDiff,reduceCtorEq]
 refine EvL.fnS (zmK g5) rfl rfl (.cons (Mzs.agg (.cons (.lit _) (.cons (zdU _ _ (fun h=>by cases h<;>contradiction)) .nil))) (.cons (Mzs.agg (.cons (.lit _) (.cons (zdU _ _ (fun h=>by cases h<;>contradiction)) (.cons (zdU _ _ (fun h=>by cases h<;>contradiction)) .nil)))) (.cons (Mzs.agg (.cons (.lit _) (.cons (.lit _) (.cons (.lit _) (.cons (.lit _) .nil))))) .nil))) ⟨⟨qcK,(zbg _ _),qcK⟩,⟨qcK,(zbg _ _),(zbg _ _),qcK⟩,⟨qcK,qcK,qcK,qcK,qcK⟩,qcK⟩ ⟨qcK,(zbg _ _),qcK,(zbg _ _),qcK,(zbg _ _),qcK⟩ ?_;try simp only[rnA,Nat.reduceLT]
 obtain⟨o184,j184,h⟩:=bind_some h;obtain⟨T184,hT184⟩:=mkT fun a:Unit=>⟨142,[],[]⟩
 refine EvL.jn T184 (fun a=>o184=.go a) ?_ ?_
 ·refine zab ?_;simp only[rnA];obtain⟨T307,hT307⟩:=mkT fun a:Int=>⟨142,[(3,(dI p3)),(4,(.lit (.int .u16 p4))),(5,(fzE false (eI .i64) p5)),(8,(.ptr 1 0)),(13,(.ptr 3 0)),(34,(.agg [(dI r4.a0.grain),(fzE false zaa r4.a0.nodes),(dI r4.a1.grain),(fzE false zaa r4.a1.nodes),(dI r4.a2.grain),(fzE false zaa r4.a2.nodes)])),(35,(dI a))],[.gone,.cells [(dU8 p1.grain),(fzE false zae p1.nodes),(fzE false (eI .u8) p1.order)],.gone,.cells [(dU8 p6.which),(dU8 p6.v.a0),(dU8 p6.v.a1),(dU8 p6.v.a2),(dU8 p6.v.a3),(dU8 p6.v.a4),(dU8 p6.v.a5),(dU8 p6.v.a6),(dU8 p6.v.a7)]]⟩
  refine EvL.rounds (α:=Int) T307 (fun n a=>zbt N r4 p4 p3 p5 p1 p6 n a=some o184) (3 - 0+2:Int).toNat 0 (by rw[hT307]; exact wm0 [.d,.k,.d,.k] ⟨rfl,⟨MB.cs ⟨qcK,qcK,qcK,qcK⟩,⟨rfl,⟨MB.cs ⟨qcK,qcK,qcK,qcK,qcK,qcK,qcK,qcK,qcK,qcK⟩,qcK⟩⟩⟩⟩) j184 (fun _ h=>nomatch (show(none:Option (Out Unit Bool))=some o184 from h)) ?_;rintro n v35 j184;simp only[zbt]at j184;rw[congrFun hT307 v35];refine zab ?_;try simp only[rnA,Nat.reduceEqDiff,Nat.reduceLT]
  cases c6:(decide (v35<3))
  ·rw[c6,cond_false]at j184;try simp only[rnA]
   replace j184:=qab j184; subst j184;exact lfj hT184 rfl (wm0 [] (by exact trivial))
  rw[c6,cond_true]at j184;obtain⟨x7,g8,j184⟩:=bind_some j184;obtain⟨r9,g10,j184⟩:=bind_some j184;try simp only[rnA,Nat.reduceEqDiff,Nat.reduceLT,Nat.reduceAdd,Nat.reduceLeDiff,zbs g8,(show v35<((3:Nat):Int)from zbN g8),qbh,(show([(dI r4.a0.grain),(fzE false zaa r4.a0.nodes),(dI r4.a1.grain),(fzE false zaa r4.a1.nodes),(dI r4.a2.grain),(fzE false zaa r4.a2.nodes)].drop (v35.toNat * 2)).take 2=[(dI x7.grain),(fzE false zaa x7.nodes)]from zsi (e:=zcI) (t:=false) rfl g8 rfl),(show v35.toNat * 2+2≤6 from zvk (e:=zcI) rfl g8)]
  refine EvL.fn (zkt g10) rfl rfl (.cons (.zcp (.cons (.lit _) (.cons (zao _ _ (fun h=>nomatch h)) .nil))) .nil) ?_;try simp only[rnA,Nat.reduceEqDiff,Nat.reduceLT]
  obtain⟨o308,j308,j184⟩:=bind_some j184;obtain⟨T308,hT308⟩:=mkT fun a:(Bool×Int)=>⟨142,[(3,(dI p3)),(4,(.lit (.int .u16 p4))),(5,(fzE false (eI .i64) p5)),(8,(.ptr 1 0)),(13,(.ptr 3 0)),(16,(.ptr 4 0)),(17,(dB a.1)),(18,(dI a.2)),(34,(.agg [(dI r4.a0.grain),(fzE false zaa r4.a0.nodes),(dI r4.a1.grain),(fzE false zaa r4.a1.nodes),(dI r4.a2.grain),(fzE false zaa r4.a2.nodes)])),(35,(dI v35))],[.gone,.cells [(dU8 p1.grain),(fzE false zae p1.nodes),(fzE false (eI .u8) p1.order)],.gone,.cells [(dU8 p6.which),(dU8 p6.v.a0),(dU8 p6.v.a1),(dU8 p6.v.a2),(dU8 p6.v.a3),(dU8 p6.v.a4),(dU8 p6.v.a5),(dU8 p6.v.a6),(dU8 p6.v.a7)],.cells [(dI x7.grain),(fzE false zaa x7.nodes)]]⟩
  refine EvL.jn T308 (fun a=>a=o308) ?_ ?_
  ·refine zab ?_;try simp only[rnA,Nat.reduceEqDiff]
   cases c11:r9
   ·rw[c11,cond_false]at j308;try simp only[rnA]
    replace j308:=qab j308; subst j308;exact lfj hT308 rfl (wm0 [.d,.k,.d,.k,.k] ⟨rfl,⟨MB.cs ⟨qcK,qcK,qcK,qcK⟩,⟨rfl,⟨MB.cs ⟨qcK,qcK,qcK,qcK,qcK,qcK,qcK,qcK,qcK,qcK⟩,⟨MB.cs ⟨qcK,qcK,qcK⟩,qcK⟩⟩⟩⟩⟩)
   rw[c11,cond_true]at j308;obtain⟨r12,g13,j308⟩:=bind_some j308;try simp only[rnA,Nat.reduceEqDiff,Nat.reduceLT,Nat.reduceAdd,Nat.reduceLeDiff]
   refine EvL.fn (zjL g13) rfl rfl (.cons (.zcp (.cons (.lit _) (.cons (zao _ _ (fun h=>nomatch h)) .nil))) .nil) ?_;try simp only[rnA,Nat.reduceEqDiff,Nat.reduceLT]
   replace j308:=qab j308; subst j308;exact lfj hT308 rfl (wm0 [.d,.k,.d,.k,.k] ⟨rfl,⟨MB.cs ⟨qcK,qcK,qcK,qcK⟩,⟨rfl,⟨MB.cs ⟨qcK,qcK,qcK,qcK,qcK,qcK,qcK,qcK,qcK,qcK⟩,⟨MB.cs ⟨qcK,qcK,qcK⟩,qcK⟩⟩⟩⟩⟩)
  rintro⟨v17,v18⟩ rfl;dsimp only at j184;rw[congrFun hT308 (v17,v18)];refine zab ?_;obtain⟨q14,g15,j184⟩:=bind_some j184;try simp only[rnA,Nat.reduceEqDiff,Nat.reduceLT,Nat.reduceAdd,Nat.reduceLeDiff,zfL g15,zgG g15]
  obtain⟨o333,j333,j184⟩:=bind_some j184;obtain⟨T333,hT333⟩:=mkT fun a:Bool=>⟨142,[(3,(dI p3)),(4,(.lit (.int .u16 p4))),(5,(fzE false (eI .i64) p5)),(8,(.ptr 1 0)),(13,(.ptr 3 0)),(16,(.ptr 4 0)),(17,(dB a)),(34,(.agg [(dI r4.a0.grain),(fzE false zaa r4.a0.nodes),(dI r4.a1.grain),(fzE false zaa r4.a1.nodes),(dI r4.a2.grain),(fzE false zaa r4.a2.nodes)])),(35,(dI v35))],[.gone,.cells [(dU8 p1.grain),(fzE false zae p1.nodes),(fzE false (eI .u8) p1.order)],.gone,.cells [(dU8 p6.which),(dU8 p6.v.a0),(dU8 p6.v.a1),(dU8 p6.v.a2),(dU8 p6.v.a3),(dU8 p6.v.a4),(dU8 p6.v.a5),(dU8 p6.v.a6),(dU8 p6.v.a7)],.cells [(dI x7.grain),(fzE false zaa x7.nodes)]]⟩
  refine EvL.jn T333 (fun a=>o333=.go a) ?_ ?_
  ·refine zab ?_;simp only[rnA];obtain⟨T350,hT350⟩:=mkT fun a:(Bool×Int)=>⟨142,[(3,(dI p3)),(4,(.lit (.int .u16 p4))),(5,(fzE false (eI .i64) p5)),(8,(.ptr 1 0)),(13,(.ptr 3 0)),(16,(.ptr 4 0)),(17,(dB a.1)),(18,(dI v18)),(34,(.agg [(dI r4.a0.grain),(fzE false zaa r4.a0.nodes),(dI r4.a1.grain),(fzE false zaa r4.a1.nodes),(dI r4.a2.grain),(fzE false zaa r4.a2.nodes)])),(35,(dI v35)),(48,(.agg [(dI p3),(dI q14)])),(49,(dI a.2))],[.gone,.cells [(dU8 p1.grain),(fzE false zae p1.nodes),(fzE false (eI .u8) p1.order)],.gone,.cells [(dU8 p6.which),(dU8 p6.v.a0),(dU8 p6.v.a1),(dU8 p6.v.a2),(dU8 p6.v.a3),(dU8 p6.v.a4),(dU8 p6.v.a5),(dU8 p6.v.a6),(dU8 p6.v.a7)],.cells [(dI x7.grain),(fzE false zaa x7.nodes)]]⟩
   refine EvL.rounds (α:=(Bool×Int)) T350 (fun n a=>za1 p3 q14 v18 x7 n a.1 a.2=some o333) (2 - 0+2:Int).toNat (v17,0) (by rw[hT350]; exact wm0 [.d,.k,.d,.k,.k] ⟨rfl,⟨MB.cs ⟨qcK,qcK,qcK,qcK⟩,⟨rfl,⟨MB.cs ⟨qcK,qcK,qcK,qcK,qcK,qcK,qcK,qcK,qcK,qcK⟩,⟨MB.cs ⟨qcK,qcK,qcK⟩,qcK⟩⟩⟩⟩⟩) j333 (fun _ h=>nomatch (show(none:Option (Out Bool Bool))=some o333 from h)) ?_;rintro n ⟨v17',v49⟩ j333;simp only[za1]at j333;rw[congrFun hT350 (v17',v49)];refine zab ?_;try simp only[rnA,Nat.reduceEqDiff,Nat.reduceLT]
   cases c16:(decide (v49<2))
   ·rw[c16,cond_false]at j333;try simp only[rnA,Nat.reduceEqDiff,Nat.reduceLT,reduceCtorEq]
    replace j333:=qab j333; subst j333;exact lfj hT333 rfl (wm0 [.d,.k,.d,.k,.k] ⟨rfl,⟨MB.cs ⟨qcK,qcK,qcK,qcK⟩,⟨rfl,⟨MB.cs ⟨qcK,qcK,qcK,qcK,qcK,qcK,qcK,qcK,qcK,qcK⟩,⟨MB.cs ⟨qcK,qcK,qcK⟩,qcK⟩⟩⟩⟩⟩)
   rw[c16,cond_true]at j333;obtain⟨x17,g18,j333⟩:=bind_some j333;try simp only[rnA,Nat.reduceEqDiff,Nat.reduceLT,zbs g18,(show v49<((2:Nat):Int)from zbN g18),Nat.mul_one,qcm,(show [(dI p3),(dI q14)][v49.toNat]? = some (.lit (.int .i64 x17))from zkN g18 (fun x=>(.lit (.int .i64 x):D)) rfl)]
   obtain⟨o352,j352,j333⟩:=bind_some j333;obtain⟨T352,hT352⟩:=mkT fun a:(Bool×Int)=>⟨142,[(3,(dI p3)),(4,(.lit (.int .u16 p4))),(5,(fzE false (eI .i64) p5)),(8,(.ptr 1 0)),(13,(.ptr 3 0)),(16,(.ptr 4 0)),(17,(dB a.1)),(18,(dI v18)),(20,(dI x17)),(21,(dI a.2)),(34,(.agg [(dI r4.a0.grain),(fzE false zaa r4.a0.nodes),(dI r4.a1.grain),(fzE false zaa r4.a1.nodes),(dI r4.a2.grain),(fzE false zaa r4.a2.nodes)])),(35,(dI v35)),(48,(.agg [(dI p3),(dI q14)])),(49,(dI v49))],[.gone,.cells [(dU8 p1.grain),(fzE false zae p1.nodes),(fzE false (eI .u8) p1.order)],.gone,.cells [(dU8 p6.which),(dU8 p6.v.a0),(dU8 p6.v.a1),(dU8 p6.v.a2),(dU8 p6.v.a3),(dU8 p6.v.a4),(dU8 p6.v.a5),(dU8 p6.v.a6),(dU8 p6.v.a7)],.cells [(dI x7.grain),(fzE false zaa x7.nodes)]]⟩
   refine EvL.jn T352 (fun a=>a=o352) ?_ ?_
   ·refine zab ?_;try simp only[rnA,Nat.reduceEqDiff]
    cases c19:v17'
    ·rw[c19,cond_false]at j352;try simp only[rnA,Nat.reduceLT]
     replace j352:=qab j352; subst j352;exact lfj hT352 rfl (wm0 [.d,.k,.d,.k,.k] ⟨rfl,⟨MB.cs ⟨qcK,qcK,qcK,qcK⟩,⟨rfl,⟨MB.cs ⟨qcK,qcK,qcK,qcK,qcK,qcK,qcK,qcK,qcK,qcK⟩,⟨MB.cs ⟨qcK,qcK,qcK⟩,qcK⟩⟩⟩⟩⟩)
    rw[c19,cond_true]at j352;try simp only[rnA]
    obtain⟨o353,j353,j352⟩:=bind_some j352;obtain⟨T353,hT353⟩:=mkT fun a:Bool=>⟨142,[(3,(dI p3)),(4,(.lit (.int .u16 p4))),(5,(fzE false (eI .i64) p5)),(8,(.ptr 1 0)),(13,(.ptr 3 0)),(16,(.ptr 4 0)),(17,(dB true)),(18,(dI v18)),(20,(dI x17)),(21,(dI 0)),(34,(.agg [(dI r4.a0.grain),(fzE false zaa r4.a0.nodes),(dI r4.a1.grain),(fzE false zaa r4.a1.nodes),(dI r4.a2.grain),(fzE false zaa r4.a2.nodes)])),(35,(dI v35)),(48,(.agg [(dI p3),(dI q14)])),(49,(dI v49)),(55,(dB a))],[.gone,.cells [(dU8 p1.grain),(fzE false zae p1.nodes),(fzE false (eI .u8) p1.order)],.gone,.cells [(dU8 p6.which),(dU8 p6.v.a0),(dU8 p6.v.a1),(dU8 p6.v.a2),(dU8 p6.v.a3),(dU8 p6.v.a4),(dU8 p6.v.a5),(dU8 p6.v.a6),(dU8 p6.v.a7)],.cells [(dI x7.grain),(fzE false zaa x7.nodes)]]⟩
    refine EvL.jn T353 (fun a=>a=o353) ?_ ?_
    ·refine zab ?_;try simp only[rnA,Nat.reduceEqDiff,Nat.reduceLT]
     cases c20:(decide (x17<0))
     ·rw[c20,cond_false]at j353;try simp only[rnA,Nat.reduceEqDiff,Nat.reduceLT]
      replace j353:=qab j353; subst j353;exact lfj hT353 rfl (wm0 [.d,.k,.d,.k,.k] ⟨rfl,⟨MB.cs ⟨qcK,qcK,qcK,qcK⟩,⟨rfl,⟨MB.cs ⟨qcK,qcK,qcK,qcK,qcK,qcK,qcK,qcK,qcK,qcK⟩,⟨MB.cs ⟨qcK,qcK,qcK⟩,qcK⟩⟩⟩⟩⟩)
     rw[c20,cond_true]at j353;try simp only[rnA,Nat.reduceEqDiff,Nat.reduceLT]
     replace j353:=qab j353; subst j353;exact lfj hT353 rfl (wm0 [.d,.k,.d,.k,.k] ⟨rfl,⟨MB.cs ⟨qcK,qcK,qcK,qcK⟩,⟨rfl,⟨MB.cs ⟨qcK,qcK,qcK,qcK,qcK,qcK,qcK,qcK,qcK,qcK⟩,⟨MB.cs ⟨qcK,qcK,qcK⟩,qcK⟩⟩⟩⟩⟩)
    rintro v55 rfl;rw[congrFun hT353 v55];refine zab ?_;try simp only[rnA,Nat.reduceEqDiff]
    cases c21:v55
    ·rw[c21,cond_false]at j352;try simp only[rnA]
     replace j352:=qab j352; subst j352;exact lfj hT352 rfl (wm0 [.d,.k,.d,.k,.k] ⟨rfl,⟨MB.cs ⟨qcK,qcK,qcK,qcK⟩,⟨rfl,⟨MB.cs ⟨qcK,qcK,qcK,qcK,qcK,qcK,qcK,qcK,qcK,qcK⟩,⟨MB.cs ⟨qcK,qcK,qcK⟩,qcK⟩⟩⟩⟩⟩)
    rw[c21,cond_true]at j352;try simp only[rnA,Nat.reduceLT]
    replace j352:=qab j352; subst j352;exact lfj hT352 rfl (wm0 [.d,.k,.d,.k,.k] ⟨rfl,⟨MB.cs ⟨qcK,qcK,qcK,qcK⟩,⟨rfl,⟨MB.cs ⟨qcK,qcK,qcK,qcK,qcK,qcK,qcK,qcK,qcK,qcK⟩,⟨MB.cs ⟨qcK,qcK,qcK⟩,qcK⟩⟩⟩⟩⟩)
   rintro⟨v17'',v21⟩ rfl;dsimp only at j333;rw[congrFun hT352 (v17'',v21)];refine zab ?_;obtain⟨r22,g23,j333⟩:=bind_some j333;try simp only[rnA,Nat.reduceEqDiff,Nat.reduceLT,Nat.reduceAdd,Nat.reduceLeDiff]
   refine EvL.fn (zj1 g23) rfl rfl (.cons (.zcp (.cons (.lit _) (.cons (zao _ _ (fun h=>nomatch h)) .nil))) (.cons (.lit _) .nil)) ?_;obtain⟨r24,g25,j333⟩:=bind_some j333;try simp only[rnA,Nat.reduceEqDiff,Nat.reduceLT,Nat.reduceAdd,Nat.reduceLeDiff]
   refine EvL.fn (zjO g25) rfl rfl (.cons (.zcp (.cons (.lit _) (.cons (zao _ _ (fun h=>nomatch h)) .nil))) (.cons (.lit _) .nil)) ?_;try simp only[rnA,Nat.reduceEqDiff,Nat.reduceLT]
   obtain⟨o356,j356,j333⟩:=bind_some j333;obtain⟨T356,hT356⟩:=mkT fun a:Unit=>⟨142,[(3,(dI p3)),(4,(.lit (.int .u16 p4))),(5,(fzE false (eI .i64) p5)),(8,(.ptr 1 0)),(13,(.ptr 3 0)),(16,(.ptr 4 0)),(17,(dB v17'')),(18,(dI v18)),(34,(.agg [(dI r4.a0.grain),(fzE false zaa r4.a0.nodes),(dI r4.a1.grain),(fzE false zaa r4.a1.nodes),(dI r4.a2.grain),(fzE false zaa r4.a2.nodes)])),(35,(dI v35)),(48,(.agg [(dI p3),(dI q14)])),(49,(dI v49))],[.gone,.cells [(dU8 p1.grain),(fzE false zae p1.nodes),(fzE false (eI .u8) p1.order)],.gone,.cells [(dU8 p6.which),(dU8 p6.v.a0),(dU8 p6.v.a1),(dU8 p6.v.a2),(dU8 p6.v.a3),(dU8 p6.v.a4),(dU8 p6.v.a5),(dU8 p6.v.a6),(dU8 p6.v.a7)],.cells [(dI x7.grain),(fzE false zaa x7.nodes)]]⟩
   refine EvL.jn T356 (fun a=>o356=.go a) ?_ ?_
   ·refine zab ?_;try simp only[rnA,Nat.reduceEqDiff]
    cases c26:(v21 == 0)
    ·rw[c26,cond_false]at j356;try simp only[rnA]
     obtain⟨o357,j357,j356⟩:=bind_some j356;obtain⟨T357,hT357⟩:=mkT fun a:Bool=>⟨142,[(3,(dI p3)),(4,(.lit (.int .u16 p4))),(5,(fzE false (eI .i64) p5)),(8,(.ptr 1 0)),(13,(.ptr 3 0)),(16,(.ptr 4 0)),(17,(dB v17'')),(18,(dI v18)),(34,(.agg [(dI r4.a0.grain),(fzE false zaa r4.a0.nodes),(dI r4.a1.grain),(fzE false zaa r4.a1.nodes),(dI r4.a2.grain),(fzE false zaa r4.a2.nodes)])),(35,(dI v35)),(48,(.agg [(dI p3),(dI q14)])),(49,(dI v49)),(93,(dB a))],[.gone,.cells [(dU8 p1.grain),(fzE false zae p1.nodes),(fzE false (eI .u8) p1.order)],.gone,.cells [(dU8 p6.which),(dU8 p6.v.a0),(dU8 p6.v.a1),(dU8 p6.v.a2),(dU8 p6.v.a3),(dU8 p6.v.a4),(dU8 p6.v.a5),(dU8 p6.v.a6),(dU8 p6.v.a7)],.cells [(dI x7.grain),(fzE false zaa x7.nodes)]]⟩
     refine EvL.jn T357 (fun a=>a=o357) ?_ ?_
     ·refine zab ?_;try simp only[rnA,Nat.reduceEqDiff,Nat.reduceLT,zaj]
      cases c27:((r22.1.length:Int)== 0)
      ·rw[c27,cond_false]at j357;try simp only[rnA,Nat.reduceEqDiff,Nat.reduceLT]
       replace j357:=qab j357; subst j357;exact lfj hT357 rfl (wm0 [.d,.k,.d,.k,.k] ⟨rfl,⟨MB.cs ⟨qcK,qcK,qcK,qcK⟩,⟨rfl,⟨MB.cs ⟨qcK,qcK,qcK,qcK,qcK,qcK,qcK,qcK,qcK,qcK⟩,⟨MB.cs ⟨qcK,qcK,qcK⟩,qcK⟩⟩⟩⟩⟩)
      rw[c27,cond_true]at j357;try simp only[rnA,Nat.reduceEqDiff,Nat.reduceLT]
      cases c28:(r22.2 == v21)
      ·rw[c28,cond_false]at j357;try simp only[rnA,Nat.reduceEqDiff,Nat.reduceLT]
       replace j357:=qab j357; subst j357;exact lfj hT357 rfl (wm0 [.d,.k,.d,.k,.k] ⟨rfl,⟨MB.cs ⟨qcK,qcK,qcK,qcK⟩,⟨rfl,⟨MB.cs ⟨qcK,qcK,qcK,qcK,qcK,qcK,qcK,qcK,qcK,qcK⟩,⟨MB.cs ⟨qcK,qcK,qcK⟩,qcK⟩⟩⟩⟩⟩)
      rw[c28,cond_true]at j357;try simp only[rnA,Nat.reduceEqDiff,Nat.reduceLT]
      cases c29:(r24.1 == 0)
      ·rw[c29,cond_false]at j357;try simp only[rnA,Nat.reduceEqDiff,Nat.reduceLT]
       replace j357:=qab j357; subst j357;exact lfj hT357 rfl (wm0 [.d,.k,.d,.k,.k] ⟨rfl,⟨MB.cs ⟨qcK,qcK,qcK,qcK⟩,⟨rfl,⟨MB.cs ⟨qcK,qcK,qcK,qcK,qcK,qcK,qcK,qcK,qcK,qcK⟩,⟨MB.cs ⟨qcK,qcK,qcK⟩,qcK⟩⟩⟩⟩⟩)
      rw[c29,cond_true]at j357;try simp only[rnA,Nat.reduceEqDiff,Nat.reduceLT]
      replace j357:=qab j357; subst j357;exact lfj hT357 rfl (wm0 [.d,.k,.d,.k,.k] ⟨rfl,⟨MB.cs ⟨qcK,qcK,qcK,qcK⟩,⟨rfl,⟨MB.cs ⟨qcK,qcK,qcK,qcK,qcK,qcK,qcK,qcK,qcK,qcK⟩,⟨MB.cs ⟨qcK,qcK,qcK⟩,qcK⟩⟩⟩⟩⟩)
     rintro v93 rfl;rw[congrFun hT357 v93];refine zab ?_;try simp only[rnA,Nat.reduceEqDiff]
     cases c30:v93
     ·rw[c30,cond_false]at j356;try simp only[rnA]
      replace j356:=qab j356; subst j356;exact lfj hT356 rfl (wm0 [.d,.k,.d,.k,.k] ⟨rfl,⟨MB.cs ⟨qcK,qcK,qcK,qcK⟩,⟨rfl,⟨MB.cs ⟨qcK,qcK,qcK,qcK,qcK,qcK,qcK,qcK,qcK,qcK⟩,⟨MB.cs ⟨qcK,qcK,qcK⟩,qcK⟩⟩⟩⟩⟩)
     rw[c30,cond_true]at j356;try simp only[rnA,Nat.reduceLT]
     replace j356:=qab j356; subst j356;dsimp only at j333;replace j333:=qab j333; subst j333;dsimp only at j184;replace j184:=qab j184; subst j184;dsimp only at h;replace h:=qab h; subst h;exact zbe.ret rfl (.lit _)
    rw[c26,cond_true]at j356;try simp only[rnA]
    obtain⟨o358,j358,j356⟩:=bind_some j356;obtain⟨T358,hT358⟩:=mkT fun a:Bool=>⟨142,[(3,(dI p3)),(4,(.lit (.int .u16 p4))),(5,(fzE false (eI .i64) p5)),(8,(.ptr 1 0)),(13,(.ptr 3 0)),(16,(.ptr 4 0)),(17,(dB v17'')),(18,(dI v18)),(34,(.agg [(dI r4.a0.grain),(fzE false zaa r4.a0.nodes),(dI r4.a1.grain),(fzE false zaa r4.a1.nodes),(dI r4.a2.grain),(fzE false zaa r4.a2.nodes)])),(35,(dI v35)),(48,(.agg [(dI p3),(dI q14)])),(49,(dI v49)),(112,(dB a))],[.gone,.cells [(dU8 p1.grain),(fzE false zae p1.nodes),(fzE false (eI .u8) p1.order)],.gone,.cells [(dU8 p6.which),(dU8 p6.v.a0),(dU8 p6.v.a1),(dU8 p6.v.a2),(dU8 p6.v.a3),(dU8 p6.v.a4),(dU8 p6.v.a5),(dU8 p6.v.a6),(dU8 p6.v.a7)],.cells [(dI x7.grain),(fzE false zaa x7.nodes)]]⟩
    refine EvL.jn T358 (fun a=>a=o358) ?_ ?_
    ·refine zab ?_;try simp only[rnA,Nat.reduceEqDiff,Nat.reduceLT]
     cases c31:(r22.2 == 0)
     ·rw[c31,cond_false]at j358;try simp only[rnA,Nat.reduceEqDiff,Nat.reduceLT]
      refine EvL.skip rfl ?_;try simp only[rnA,Nat.reduceLT]
      refine EvL.skip rfl ?_;try simp only[rnA,Nat.reduceEqDiff,Nat.reduceLT]
      refine EvL.skip rfl ?_;try simp only[rnA,Nat.reduceLT]
      refine EvL.skip rfl ?_;try simp only[rnA,Nat.reduceEqDiff,Nat.reduceLT]
      replace j358:=qab j358; subst j358;exact lfj hT358 rfl (wm0 [.d,.k,.d,.k,.k] ⟨rfl,⟨MB.cs ⟨qcK,qcK,qcK,qcK⟩,⟨rfl,⟨MB.cs ⟨qcK,qcK,qcK,qcK,qcK,qcK,qcK,qcK,qcK,qcK⟩,⟨MB.cs ⟨qcK,qcK,qcK⟩,qcK⟩⟩⟩⟩⟩)
     rw[c31,cond_true]at j358;obtain⟨r32,g33,j358⟩:=bind_some j358;try simp only[rnA,Nat.reduceEqDiff,Nat.reduceLT,Nat.reduceAdd,Nat.reduceLeDiff]
     refine EvL.fn (zgm g33) rfl rfl (.cons (.zcp (.cons (.lit _) (.cons (zao _ _ (fun h=>nomatch h)) .nil))) (.cons (.lit _) .nil)) ?_;obtain⟨r34,g35,j358⟩:=bind_some j358;try simp only[rnA,Nat.reduceLT]
     refine EvL.fn (zml g35) rfl rfl (.cons (zao _ _ (fun h=>nomatch h)) (.cons (zao _ _ (fun h=>nomatch h)) .nil)) ?_;try simp only[rnA,Nat.reduceEqDiff,Nat.reduceLT]
     cases c36:r34
     ·rw[c36,cond_false]at j358;try simp only[rnA,Nat.reduceEqDiff,Nat.reduceLT]
      refine EvL.skip rfl ?_;try simp only[rnA,Nat.reduceLT]
      refine EvL.skip rfl ?_;try simp only[rnA,Nat.reduceEqDiff,Nat.reduceLT]
      replace j358:=qab j358; subst j358;exact lfj hT358 rfl (wm0 [.d,.k,.d,.k,.k] ⟨rfl,⟨MB.cs ⟨qcK,qcK,qcK,qcK⟩,⟨rfl,⟨MB.cs ⟨qcK,qcK,qcK,qcK,qcK,qcK,qcK,qcK,qcK,qcK⟩,⟨MB.cs ⟨qcK,qcK,qcK⟩,qcK⟩⟩⟩⟩⟩)
     rw[c36,cond_true]at j358;obtain⟨r37,g38,j358⟩:=bind_some j358;try simp only[rnA,Nat.reduceEqDiff,Nat.reduceLT,Nat.reduceAdd,Nat.reduceLeDiff]
     refine EvL.fn (zjq g38) rfl rfl (.cons (.zcp (.cons (.lit _) (.cons (zao _ _ (fun h=>nomatch h)) .nil))) (.cons (.lit _) .nil)) ?_;obtain⟨r39,g40,j358⟩:=bind_some j358;try simp only[rnA,Nat.reduceLT]
     refine EvL.fn (zjB g40) rfl rfl (.cons (.lit _) (.cons (.lit _) (.cons (.lit _) (.cons (.lit _) .nil)))) ?_;try simp only[rnA,Nat.reduceEqDiff,Nat.reduceLT]
     replace j358:=qab j358; subst j358;exact lfj hT358 rfl (wm0 [.d,.k,.d,.k,.k] ⟨rfl,⟨MB.cs ⟨qcK,qcK,qcK,qcK⟩,⟨rfl,⟨MB.cs ⟨qcK,qcK,qcK,qcK,qcK,qcK,qcK,qcK,qcK,qcK⟩,⟨MB.cs ⟨qcK,qcK,qcK⟩,qcK⟩⟩⟩⟩⟩)
    rintro v112 rfl;rw[congrFun hT358 v112];refine zab ?_;try simp only[rnA,Nat.reduceEqDiff]
    cases c41:v112
    ·rw[c41,cond_false]at j356;try simp only[rnA]
     replace j356:=qab j356; subst j356;exact lfj hT356 rfl (wm0 [.d,.k,.d,.k,.k] ⟨rfl,⟨MB.cs ⟨qcK,qcK,qcK,qcK⟩,⟨rfl,⟨MB.cs ⟨qcK,qcK,qcK,qcK,qcK,qcK,qcK,qcK,qcK,qcK⟩,⟨MB.cs ⟨qcK,qcK,qcK⟩,qcK⟩⟩⟩⟩⟩)
    rw[c41,cond_true]at j356;try simp only[rnA,Nat.reduceLT]
    replace j356:=qab j356; subst j356;dsimp only at j333;replace j333:=qab j333; subst j333;dsimp only at j184;replace j184:=qab j184; subst j184;dsimp only at h;replace h:=qab h; subst h;exact zbe.ret rfl (.lit _)
   rintro⟨⟩ rfl;dsimp only at j333;rw[congrFun hT356 ()];refine zab ?_;try simp only[rnA,Nat.reduceEqDiff,Nat.reduceLT]
   exact⟨(v17'',(w64 (v49+1))),j333,by rw[hT350]; exact wm0 [.d,.k,.d,.k,.k] ⟨rfl,⟨MB.cs ⟨qcK,qcK,qcK,qcK⟩,⟨rfl,⟨MB.cs ⟨qcK,qcK,qcK,qcK,qcK,qcK,qcK,qcK,qcK,qcK⟩,⟨MB.cs ⟨qcK,qcK,qcK⟩,qcK⟩⟩⟩⟩⟩⟩
  rintro v17' rfl;dsimp only at j184;rw[congrFun hT333 v17'];refine zab ?_;obtain⟨y42,g43,j184⟩:=bind_some j184;obtain⟨r44,g45,j184⟩:=bind_some j184;try simp only[rnA,Nat.reduceEqDiff,Nat.reduceLT,Nat.reduceAdd,Nat.reduceLeDiff,zaj,ziE (n:=1) (e:=(eI .i64)) rfl g43]
  refine EvL.fn (zds g45) rfl rfl (.cons (.zcp (.cons (.lit _) (.cons (zao _ _ (fun h=>nomatch h)) (.cons (zao _ _ (fun h=>nomatch h)) .nil)))) .nil) ?_;obtain⟨r46,g47,j184⟩:=bind_some j184;try simp only[rnA,Nat.reduceLT]
  refine EvL.fn (zhy g47) rfl rfl (.cons (.zcp (.cons (.lit _) (.cons (.lit _) (.cons (.lit _) (.cons (.lit _) (.cons (.lit _) (.cons (.lit _) (.cons (.lit _) (.cons (.lit _) (.cons (.lit _) .nil)))))))))) (.cons (.zcp (.cons (.lit _) (.cons (zao _ _ (fun h=>nomatch h)) .nil))) .nil)) ?_;try simp only[rnA,Nat.reduceEqDiff,Nat.reduceLT,Nat.reduceAdd,Nat.reduceLeDiff]
  obtain⟨o363,j363,j184⟩:=bind_some j184;obtain⟨T363,hT363⟩:=mkT fun a:Unit=>⟨142,[(3,(dI p3)),(4,(.lit (.int .u16 p4))),(5,(fzE false (eI .i64) p5)),(8,(.ptr 1 0)),(13,(.ptr 3 0)),(34,(.agg [(dI r4.a0.grain),(fzE false zaa r4.a0.nodes),(dI r4.a1.grain),(fzE false zaa r4.a1.nodes),(dI r4.a2.grain),(fzE false zaa r4.a2.nodes)])),(35,(dI v35))],[.gone,.cells [(dU8 p1.grain),(fzE false zae p1.nodes),(fzE false (eI .u8) p1.order)],.gone,.cells [(dU8 p6.which),(dU8 p6.v.a0),(dU8 p6.v.a1),(dU8 p6.v.a2),(dU8 p6.v.a3),(dU8 p6.v.a4),(dU8 p6.v.a5),(dU8 p6.v.a6),(dU8 p6.v.a7)]]⟩
  refine EvL.jn T363 (fun a=>o363=.go a) ?_ ?_
  ·refine zab ?_;simp only[rnA];obtain⟨T367,hT367⟩:=mkT fun a:(Bool×Int)=>⟨142,[(3,(dI p3)),(4,(.lit (.int .u16 p4))),(5,(fzE false (eI .i64) p5)),(8,(.ptr 1 0)),(13,(.ptr 3 0)),(16,(.ptr 4 0)),(17,(dB a.1)),(34,(.agg [(dI r4.a0.grain),(fzE false zaa r4.a0.nodes),(dI r4.a1.grain),(fzE false zaa r4.a1.nodes),(dI r4.a2.grain),(fzE false zaa r4.a2.nodes)])),(35,(dI v35)),(123,(.agg [(fzE false (eI .i64) y42),(fzE false (eI .i64) r46)])),(124,(dI a.2))],[.gone,.cells [(dU8 p1.grain),(fzE false zae p1.nodes),(fzE false (eI .u8) p1.order)],.gone,.cells [(dU8 p6.which),(dU8 p6.v.a0),(dU8 p6.v.a1),(dU8 p6.v.a2),(dU8 p6.v.a3),(dU8 p6.v.a4),(dU8 p6.v.a5),(dU8 p6.v.a6),(dU8 p6.v.a7)],.cells [(dI x7.grain),(fzE false zaa x7.nodes)]]⟩
   refine EvL.rounds (α:=(Bool×Int)) T367 (fun n a=>za0 y42 r46 x7 n a.1 a.2=some o363) (2 - 0+2:Int).toNat (v17',0) (by rw[hT367]; exact zbx.m0 [.d,.k,.d,.k,.k] rfl (msq (msq (msq (msq (msq (msq (msq (ms rfl ⟨qcK,qcK,qcK,qcK,qcK,qcK,qcK⟩ (msq (mx rfl (Mo.zcp (.cons (.same trivial) (.cons (.fr (zdU _ _ (fun h=>by cases h<;>contradiction))) .nil))) (msq trivial))))))))))) ⟨rfl,⟨MB.cs ⟨qcK,qcK,qcK,qcK⟩,⟨rfl,⟨MB.cs ⟨qcK,qcK,qcK,qcK,qcK,qcK,qcK,qcK,qcK,qcK⟩,⟨MB.cs ⟨qcK,qcK,qcK⟩,qcK⟩⟩⟩⟩⟩) j363 (fun _ h=>nomatch (show(none:Option (Out Unit Bool))=some o363 from h)) ?_;rintro n ⟨v17'',v124⟩ j363;simp only[za0]at j363;rw[congrFun hT367 (v17'',v124)];refine zab ?_;try simp only[rnA,Nat.reduceEqDiff,Nat.reduceLT]
   cases c48:(decide (v124<2))
   ·rw[c48,cond_false]at j363;try simp only[rnA,Nat.reduceEqDiff,Nat.reduceLT,reduceCtorEq]
    replace j363:=qab j363; subst j363;exact lfj hT363 rfl (wm0 [.d,.k,.d,.k] ⟨rfl,⟨MB.cs ⟨qcK,qcK,qcK,qcK⟩,⟨rfl,⟨MB.cs ⟨qcK,qcK,qcK,qcK,qcK,qcK,qcK,qcK,qcK,qcK⟩,qcK⟩⟩⟩⟩)
   rw[c48,cond_true]at j363;obtain⟨x49,g50,j363⟩:=bind_some j363;try simp only[rnA,Nat.reduceEqDiff,Nat.reduceLT,zbs g50,(show v124<((2:Nat):Int)from zbN g50),Nat.mul_one,qcm,(show [(fzE false (eI .i64) y42),(fzE false (eI .i64) r46)][v124.toNat]? = some (fzE false (eI .i64) x49)from zkN g50 (fun x=>fzE false (eI .i64) x) rfl)]
   obtain⟨o368,j368,j363⟩:=bind_some j363;obtain⟨T368,hT368⟩:=mkT fun a:(Bool×Int)=>⟨142,[(3,(dI p3)),(4,(.lit (.int .u16 p4))),(5,(fzE false (eI .i64) p5)),(8,(.ptr 1 0)),(13,(.ptr 3 0)),(16,(.ptr 4 0)),(17,(dB a.1)),(27,(fzE false (eI .i64) x49)),(28,(dI a.2)),(34,(.agg [(dI r4.a0.grain),(fzE false zaa r4.a0.nodes),(dI r4.a1.grain),(fzE false zaa r4.a1.nodes),(dI r4.a2.grain),(fzE false zaa r4.a2.nodes)])),(35,(dI v35)),(123,(.agg [(fzE false (eI .i64) y42),(fzE false (eI .i64) r46)])),(124,(dI v124))],[.gone,.cells [(dU8 p1.grain),(fzE false zae p1.nodes),(fzE false (eI .u8) p1.order)],.gone,.cells [(dU8 p6.which),(dU8 p6.v.a0),(dU8 p6.v.a1),(dU8 p6.v.a2),(dU8 p6.v.a3),(dU8 p6.v.a4),(dU8 p6.v.a5),(dU8 p6.v.a6),(dU8 p6.v.a7)],.cells [(dI x7.grain),(fzE false zaa x7.nodes)]]⟩
   refine EvL.jn T368 (fun a=>a=o368) ?_ ?_
   ·refine zab ?_;try simp only[rnA,Nat.reduceEqDiff]
    cases c51:v17''
    ·rw[c51,cond_false]at j368;try simp only[rnA,Nat.reduceLT]
     replace j368:=qab j368; subst j368;exact lfj hT368 rfl (wm0 [.d,.k,.d,.k,.k] ⟨rfl,⟨MB.cs ⟨qcK,qcK,qcK,qcK⟩,⟨rfl,⟨MB.cs ⟨qcK,qcK,qcK,qcK,qcK,qcK,qcK,qcK,qcK,qcK⟩,⟨MB.cs ⟨qcK,qcK,qcK⟩,qcK⟩⟩⟩⟩⟩)
    rw[c51,cond_true]at j368;obtain⟨r52,g53,j368⟩:=bind_some j368;try simp only[rnA,Nat.reduceEqDiff,Nat.reduceLT,Nat.reduceAdd,Nat.reduceLeDiff]
    refine EvL.fn (zhV g53) rfl rfl (.cons (.zcp (.cons (.lit _) (.cons (zao _ _ (fun h=>nomatch h)) .nil))) (.cons (zao _ _ (fun h=>nomatch h)) .nil)) ?_;try simp only[rnA,Nat.reduceEqDiff,Nat.reduceLT]
    cases c54:r52
    ·rw[c54,cond_false]at j368;try simp only[rnA,Nat.reduceLT]
     replace j368:=qab j368; subst j368;exact lfj hT368 rfl (wm0 [.d,.k,.d,.k,.k] ⟨rfl,⟨MB.cs ⟨qcK,qcK,qcK,qcK⟩,⟨rfl,⟨MB.cs ⟨qcK,qcK,qcK,qcK,qcK,qcK,qcK,qcK,qcK,qcK⟩,⟨MB.cs ⟨qcK,qcK,qcK⟩,qcK⟩⟩⟩⟩⟩)
    rw[c54,cond_true]at j368;try simp only[rnA]
    replace j368:=qab j368; subst j368;exact lfj hT368 rfl (wm0 [.d,.k,.d,.k,.k] ⟨rfl,⟨MB.cs ⟨qcK,qcK,qcK,qcK⟩,⟨rfl,⟨MB.cs ⟨qcK,qcK,qcK,qcK,qcK,qcK,qcK,qcK,qcK,qcK⟩,⟨MB.cs ⟨qcK,qcK,qcK⟩,qcK⟩⟩⟩⟩⟩)
   rintro⟨v17''',v28⟩ rfl;dsimp only at j363;rw[congrFun hT368 (v17''',v28)];refine zab ?_;obtain⟨r55,g56,j363⟩:=bind_some j363;try simp only[rnA,Nat.reduceEqDiff,Nat.reduceLT,Nat.reduceAdd,Nat.reduceLeDiff]
   refine EvL.fn (zfs g56) rfl rfl (.cons (.zcp (.cons (.lit _) (.cons (zao _ _ (fun h=>nomatch h)) .nil))) (.cons (zao _ _ (fun h=>nomatch h)) .nil)) ?_;try simp only[rnA,Nat.reduceEqDiff,Nat.reduceLT]
   cases c57:(r55 == v28)
   ·rw[c57,cond_false]at j363;try simp only[rnA,Nat.reduceLT]
    replace j363:=qab j363; subst j363;dsimp only at j184;replace j184:=qab j184; subst j184;dsimp only at h;replace h:=qab h; subst h;exact zbe.ret rfl (.lit _)
   rw[c57,cond_true]at j363;try simp only[rnA,Nat.reduceEqDiff,Nat.reduceLT]
   exact⟨(v17''',(w64 (v124+1))),j363,by rw[hT367]; exact wm0 [.d,.k,.d,.k,.k] ⟨rfl,⟨MB.cs ⟨qcK,qcK,qcK,qcK⟩,⟨rfl,⟨MB.cs ⟨qcK,qcK,qcK,qcK,qcK,qcK,qcK,qcK,qcK,qcK⟩,⟨MB.cs ⟨qcK,qcK,qcK⟩,qcK⟩⟩⟩⟩⟩⟩
  rintro⟨⟩ rfl;dsimp only at j184;rw[congrFun hT363 ()];refine zab ?_;try simp only[rnA,Nat.reduceEqDiff,Nat.reduceLT]
  exact⟨(w64 (v35+1)),j184,by rw[hT307]; exact wm0 [.d,.k,.d,.k] ⟨rfl,⟨MB.cs ⟨qcK,qcK,qcK,qcK⟩,⟨rfl,⟨MB.cs ⟨qcK,qcK,qcK,qcK,qcK,qcK,qcK,qcK,qcK,qcK⟩,qcK⟩⟩⟩⟩⟩
 rintro⟨⟩ rfl;dsimp only at h;rw[congrFun hT184 ()];refine zab ?_;try simp only[rnA,Nat.reduceLT]
 replace h:=qab h; subst h;exact zbe.ret rfl (.lit _)
end Go.Dc
