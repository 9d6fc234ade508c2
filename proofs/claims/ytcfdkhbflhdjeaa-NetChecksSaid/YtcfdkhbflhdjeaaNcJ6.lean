/-
 What r02_Index computes. Conditions: none.
-/
import Derived.Test.YtcfdkhbflhdjeaaNcDc7
import Derived.Test.YtcfdkhbflhdjeaaNcJ5
set_option linter.unusedSimpArgs false
set_option linter.unusedVariables false
set_option maxRecDepth 100000
set_option maxHeartbeats 4000000
namespace Go.Dc
open Go Go.Mx Go.Lx Go.Proofs
def zbl(r4:A3_S_api_Net)(x12:S_api_Net)(v12:Int):Nat→Int→Option (Out Unit Bool)
 | 0,_=>none
 | n+1,v79=>(
bif (decide (v79<3))then(
(zaO [r4.a0,r4.a1,r4.a2] v79).bind fun x36=>
(((zee x12 x36).bind fun r38=>
bif (v12 == 0)then(
(zbq x36).bind fun r42=>
bif r42 then(
(zec x12 x36).bind fun r46=>
bif r38 then(
bif r46 then(
some false)
else(
some true))
else(
bif r46 then(
some true)
else(
some false)))
else(
bif r38 then(
some true)
else(
some false)))
else(
bif r38 then(
some true)
else(
some false)):Option Bool)).bind fun v96=>
bif v96 then(
some (.ret false))
else(
zbl r4 x12 v12 n (w64 (v79+1))))
else(
some (.go ())))
def zbn(y8:(List S_api_Net))(r4:A3_S_api_Net):Nat→Int→Option (Out Unit Bool)
 | 0,_=>none
 | n+1,v35=>(
bif (decide (v35<((4:Nat):Int)))then(
(zaO y8 v35).bind fun x12=>
(zbq x12).bind fun r14=>
((bif r14 then(
some 0)
else(
some 50):Option Int)).bind fun v12=>
(zb3 x12).bind fun r17=>
(zcn x12).bind fun r19=>
((bif (v12 == 0)then(
(zcB x12).bind fun r22=>
(zdD x12).bind fun r24=>
some (r22,r24))
else(
some (0,0)):Option ((Int×Int)))).bind fun o=>match o with
|(v17,v18)=>(
(((za0 x12).bind fun r26=>
bif (r26 == v12)then(
(zb1 r17.1 r17.2 v12 v17).bind fun r29=>
bif r29 then(
(zb1 r19.1 r19.2 v12 v18).bind fun r32=>
some (!r32))
else(
some true))
else(
some true):Option Bool)).bind fun v77=>
bif v77 then(
some (.ret false))
else(
((zbl r4 x12 v12 (3 - 0+2:Int).toNat 0:Option (Out Unit Bool))).bind fun o=>match o with
| .go _=>(
zbn y8 r4 n (w64 (v35+1)))
| .ret r=>some (.ret r))))
else(
some (.go ())))
def zcI(N:Nat)(p0:S_api_Net)(p1:S_haruspexref05_Draft)(p2:S_haruspexref05_Bend)(p3:S_haruspexref05_Bend):Option Bool:=
(zlA).bind fun r1=>
bif r1 then(
(zd8 N p0 p1 p2).bind fun r4=>
(ziz p3 r4.a2).bind fun r6=>
(zev 32 [r4.a0,r4.a1,r4.a2,r6]).bind fun y8=>
((zbn y8 r4 (((4:Nat):Int) - 0+2:Int).toNat 0:Option (Out Unit Bool))).bind fun o=>match o with
| .go _=>(
some true)
| .ret r=>some r)
else(
some false)
theorem zgL{N:Nat}{p0:S_api_Net}{p1:S_haruspexref05_Draft}{p2:S_haruspexref05_Bend}{p3:S_haruspexref05_Bend}{r:Bool}(h:zcI N p0 p1 p2 p3=some r):Lx.Fn mC 4 [(.agg [(dI p0.grain),(fzE false zaa p0.nodes)]),(.agg [(dU8 p1.grain),(fzE false zae p1.nodes),(fzE false (eI .u8) p1.order)]),(.agg [(dU8 p2.what),(dU8 p2.at_),(dU8 p2.row),(dI p2.n)]),(.agg [(dU8 p3.what),(dU8 p3.at_),(dU8 p3.row),(dI p3.n)])] (dB r):=by
 refine fnO (by conv=>lhs; cbv) ?_;unfold zcI at h;refine zab ?_;obtain⟨r1,g2,h⟩:=bind_some h;try simp only[rnA,Nat.reduceEqDiff,Nat.reduceLT,Nat.reduceAdd,reduceCtorEq]
 refine EvL.fn (zqY g2) rfl rfl .nil ?_;try simp only[rnA,Nat.reduceEqDiff,Nat.reduceLT,reduceCtorEq]
 cases c3:r1
 ·rw[c3,cond_false]at h;try simp only[rnA,Nat.reduceLT]
  replace h:=qab h; subst h;exact za6.ret rfl (.lit _)
 rw[c3,cond_true]at h;obtain⟨r4,g5,h⟩:=bind_some h;try simp only[rnA,Nat.reduceEqDiff,Nat.reduceLT,Nat.reduceAdd,Nat.reduceLeDiff,reduceCtorEq]
 refine EvL.fnS (zlt g5) rfl rfl (.cons (Mzs.agg (.cons (.lit _) (.cons (zex _ _ (fun h=>by cases h<;>contradiction)) .nil))) (.cons (Mzs.agg (.cons (.lit _) (.cons (zex _ _ (fun h=>by cases h<;>contradiction)) (.cons (zex _ _ (fun h=>by cases h<;>contradiction)) .nil)))) (.cons (Mzs.agg (.cons (.lit _) (.cons (.lit _) (.cons (.lit _) (.cons (.lit _) .nil))))) .nil))) ⟨⟨qcG,(zby _ _),qcG⟩,⟨qcG,(zby _ _),(zby _ _),qcG⟩,⟨qcG,qcG,qcG,qcG,qcG⟩,qcG⟩ ⟨qcG,(zby _ _),qcG,(zby _ _),qcG,(zby _ _),qcG⟩ ?_;try simp only[rnA,Nat.reduceEqDiff,Nat.reduceLT,Nat.reduceAdd,Nat.reduceLeDiff,reduceCtorEq]
 refine EvL.toE (β:=4) (n:=2) (es:=[[(dI r4.a0.grain),(fzE false zaa r4.a0.nodes)],[(dI r4.a1.grain),(fzE false zaa r4.a1.nodes)],[(dI r4.a2.grain),(fzE false zaa r4.a2.nodes)]]) (E':=[(7,(.ptr 3 0)),(9,(.eptr 4 2 0 0 3))]) (L':=[.cells [(dI p0.grain),(fzE false zaa p0.nodes)],.cells [(dU8 p1.grain),(fzE false zae p1.nodes),(fzE false (eI .u8) p1.order)],.cells [(dU8 p2.what),(dU8 p2.at_),(dU8 p2.row),(dI p2.n)],.cells [(dU8 p3.what),(dU8 p3.at_),(dU8 p3.row),(dI p3.n)],.els 2 [[(dI r4.a0.grain),(fzE false zaa r4.a0.nodes)],[(dI r4.a1.grain),(fzE false zaa r4.a1.nodes)],[(dI r4.a2.grain),(fzE false zaa r4.a2.nodes)]]]) (by decide) rfl (by intro c hc; simp only[qaH,qbN,or_false]at hc; rcases hc with rfl | rfl | rfl<;>rfl) (by intro c hc; simp only[qaH,qbN,or_false]at hc; rcases hc with rfl | rfl | rfl<;>exact⟨qcG,qcG,qcG⟩) ⟨⟨_,rfl,.inl ⟨rfl,rfl⟩⟩,⟨⟨_,rfl,.inr ⟨0,rfl,rfl⟩⟩,qcG⟩⟩ ⟨.inr ⟨qcG,qcG,qcG⟩,⟨.inr ⟨qcG,qcG,qcG,qcG⟩,⟨.inr ⟨qcG,qcG,qcG,qcG,qcG⟩,⟨.inr ⟨qcG,qcG,qcG,qcG,qcG⟩,⟨.inl rfl,qcG⟩⟩⟩⟩⟩ rfl ?_;refine EvL.zoi (β:=4) (es:=[[(dI r4.a0.grain),(fzE false zaa r4.a0.nodes)],[(dI r4.a1.grain),(fzE false zaa r4.a1.nodes)],[(dI r4.a2.grain),(fzE false zaa r4.a2.nodes)]]) (S1:=⟨99,[(27,(.sl 4 0 2 3 (some 3) 3)),(7,(.ptr 3 0)),(9,(.eptr 4 2 0 0 3))],[.cells [(dI p0.grain),(fzE false zaa p0.nodes)],.cells [(dU8 p1.grain),(fzE false zae p1.nodes),(fzE false (eI .u8) p1.order)],.cells [(dU8 p2.what),(dU8 p2.at_),(dU8 p2.row),(dI p2.n)],.cells [(dU8 p3.what),(dU8 p3.at_),(dU8 p3.row),(dI p3.n)],.els 2 [[(dI r4.a0.grain),(fzE false zaa r4.a0.nodes)],[(dI r4.a1.grain),(fzE false zaa r4.a1.nodes)],[(dI r4.a2.grain),(fzE false zaa r4.a2.nodes)]]]⟩) rfl rfl rfl (by decide) rfl ?_;refine EvL.one (S1:=⟨99,[(28,(.agg [(dU8 p3.what),(dU8 p3.at_),(dU8 p3.row),(dI p3.n)])),(27,(.sl 4 0 2 3 (some 3) 3)),(7,(.ptr 3 0)),(9,(.eptr 4 2 0 0 3))],[.cells [(dI p0.grain),(fzE false zaa p0.nodes)],.cells [(dU8 p1.grain),(fzE false zae p1.nodes),(fzE false (eI .u8) p1.order)],.cells [(dU8 p2.what),(dU8 p2.at_),(dU8 p2.row),(dI p2.n)],.cells [(dU8 p3.what),(dU8 p3.at_),(dU8 p3.row),(dI p3.n)],.els 2 [[(dI r4.a0.grain),(fzE false zaa r4.a0.nodes)],[(dI r4.a1.grain),(fzE false zaa r4.a1.nodes)],[(dI r4.a2.grain),(fzE false zaa r4.a2.nodes)]]]⟩) rfl rfl ?_;refine EvL.one (S1:=⟨99,[(29,(.eptr 4 2 0 4 3)),(28,(.agg [(dU8 p3.what),(dU8 p3.at_),(dU8 p3.row),(dI p3.n)])),(27,(.sl 4 0 2 3 (some 3) 3)),(7,(.ptr 3 0)),(9,(.eptr 4 2 0 0 3))],[.cells [(dI p0.grain),(fzE false zaa p0.nodes)],.cells [(dU8 p1.grain),(fzE false zae p1.nodes),(fzE false (eI .u8) p1.order)],.cells [(dU8 p2.what),(dU8 p2.at_),(dU8 p2.row),(dI p2.n)],.cells [(dU8 p3.what),(dU8 p3.at_),(dU8 p3.row),(dI p3.n)],.els 2 [[(dI r4.a0.grain),(fzE false zaa r4.a0.nodes)],[(dI r4.a1.grain),(fzE false zaa r4.a1.nodes)],[(dI r4.a2.grain),(fzE false zaa r4.a2.nodes)]]]⟩) rfl rfl ?_;refine EvL.ep (j:=29) (i':=2) (o':=0) rfl rfl ?_;refine EvL.one (S1:=⟨99,[(30,(.agg [(dI r4.a2.grain),(fzE false zaa r4.a2.nodes)])),(29,(.eptr 4 2 2 0 3)),(29,(.eptr 4 2 0 4 3)),(28,(.agg [(dU8 p3.what),(dU8 p3.at_),(dU8 p3.row),(dI p3.n)])),(27,(.sl 4 0 2 3 (some 3) 3)),(7,(.ptr 3 0)),(9,(.eptr 4 2 0 0 3))],[.cells [(dI p0.grain),(fzE false zaa p0.nodes)],.cells [(dU8 p1.grain),(fzE false zae p1.nodes),(fzE false (eI .u8) p1.order)],.cells [(dU8 p2.what),(dU8 p2.at_),(dU8 p2.row),(dI p2.n)],.cells [(dU8 p3.what),(dU8 p3.at_),(dU8 p3.row),(dI p3.n)],.els 2 [[(dI r4.a0.grain),(fzE false zaa r4.a0.nodes)],[(dI r4.a1.grain),(fzE false zaa r4.a1.nodes)],[(dI r4.a2.grain),(fzE false zaa r4.a2.nodes)]]]⟩) rfl rfl ?_;refine EvL.one (S1:=⟨99,[(35,(dI 0)),(30,(.agg [(dI r4.a2.grain),(fzE false zaa r4.a2.nodes)])),(29,(.eptr 4 2 2 0 3)),(29,(.eptr 4 2 0 4 3)),(28,(.agg [(dU8 p3.what),(dU8 p3.at_),(dU8 p3.row),(dI p3.n)])),(27,(.sl 4 0 2 3 (some 3) 3)),(7,(.ptr 3 0)),(9,(.eptr 4 2 0 0 3))],[.cells [(dI p0.grain),(fzE false zaa p0.nodes)],.cells [(dU8 p1.grain),(fzE false zae p1.nodes),(fzE false (eI .u8) p1.order)],.cells [(dU8 p2.what),(dU8 p2.at_),(dU8 p2.row),(dI p2.n)],.cells [(dU8 p3.what),(dU8 p3.at_),(dU8 p3.row),(dI p3.n)],.els 2 [[(dI r4.a0.grain),(fzE false zaa r4.a0.nodes)],[(dI r4.a1.grain),(fzE false zaa r4.a1.nodes)],[(dI r4.a2.grain),(fzE false zaa r4.a2.nodes)]]]⟩) rfl rfl ?_
 refine zab ?_;obtain⟨r6,g7,h⟩:=bind_some h;try simp only[rnA]
 refine EvL.fn (zps g7) rfl rfl (.cons (.zcf (.cons (.lit _) (.cons (.lit _) (.cons (.lit _) (.cons (.lit _) .nil))))) (.cons (.zcf (.cons (.lit _) (.cons (zan _ _ (fun h=>nomatch h)) .nil))) .nil)) ?_;obtain⟨y8,g9,h⟩:=bind_some h;have e10:y8.length=4:=zn4 g9;try simp only[rnA,Nat.reduceEqDiff,Nat.reduceLT,Nat.reduceAdd,Nat.reduceLeDiff,Nat.reduceMul,Nat.lt_add_one,(show 4 * 32≤zad from zkA g9)]
 refine EvL.toC (β:=4) (n:=2) (es:=[[(dI r4.a0.grain),(fzE false zaa r4.a0.nodes)],[(dI r4.a1.grain),(fzE false zaa r4.a1.nodes)],[(dI r4.a2.grain),(fzE false zaa r4.a2.nodes)]]) (E':=[(9,(.ptr 4 0)),(33,(.sl 6 0 2 4 none 4)),(34,(dI ((4:Nat):Int))),(35,(dI 0))]) (L':=[.cells [(dI p0.grain),(fzE false zaa p0.nodes)],.cells [(dU8 p1.grain),(fzE false zae p1.nodes),(fzE false (eI .u8) p1.order)],.cells [(dU8 p2.what),(dU8 p2.at_),(dU8 p2.row),(dI p2.n)],.cells [(dU8 p3.what),(dU8 p3.at_),(dU8 p3.row),(dI p3.n)],.cells [(dI r4.a0.grain),(fzE false zaa r4.a0.nodes),(dI r4.a1.grain),(fzE false zaa r4.a1.nodes),(dI r4.a2.grain),(fzE false zaa r4.a2.nodes)],.els 2 ([r6].map (zam.c true)),.grow 2 [[(dI r4.a0.grain),(fzE false zaa r4.a0.nodes)],[(dI r4.a1.grain),(fzE false zaa r4.a1.nodes)],[(dI r4.a2.grain),(fzE false zaa r4.a2.nodes)],[(dI r6.grain),(fzE true zaa r6.nodes)]]]) rfl (by intro c hc; simp only[qaH,qbN,or_false]at hc; rcases hc with rfl | rfl | rfl<;>exact⟨qcG,qcG,qcG⟩) ⟨⟨_,rfl,.inr ⟨0,rfl,rfl⟩⟩,⟨⟨_,rfl,.inl ⟨rfl,rfl⟩⟩,⟨⟨_,rfl,.inl ⟨rfl,qcG⟩⟩,⟨⟨_,rfl,.inl ⟨rfl,qcG⟩⟩,qcG⟩⟩⟩⟩ ⟨.inr ⟨qcG,qcG,qcG⟩,⟨.inr ⟨qcG,qcG,qcG,qcG⟩,⟨.inr ⟨qcG,qcG,qcG,qcG,qcG⟩,⟨.inr ⟨qcG,qcG,qcG,qcG,qcG⟩,⟨.inl rfl,⟨.inr (zrZ zam true [r6]),⟨.inr (by intro c hc; simp only[qaH,qbN,or_false]at hc; rcases hc with rfl | rfl | rfl | rfl<;>exact⟨qcG,qcG,qcG⟩),qcG⟩⟩⟩⟩⟩⟩⟩ rfl ?_;obtain⟨o34,j34,h⟩:=bind_some h;obtain⟨T34,hT34⟩:=mkT fun a:Unit=>⟨99,[],[]⟩
 refine EvL.jn T34 (fun a=>o34=.go a) ?_ ?_
 ·refine zab ?_;simp only[rnA,zao];obtain⟨T57,hT57⟩:=mkT fun a:Int=>⟨99,[(9,(.ptr 4 0)),(33,(.sl 6 0 2 4 none 4)),(34,(dI ((4:Nat):Int))),(35,(dI a))],[.gone,.gone,.gone,.gone,.cells [(dI r4.a0.grain),(fzE false zaa r4.a0.nodes),(dI r4.a1.grain),(fzE false zaa r4.a1.nodes),(dI r4.a2.grain),(fzE false zaa r4.a2.nodes)],.gone,.grow 2 (y8.map (zam.c false))]⟩
  refine EvL.rounds (α:=Int) T57 (fun n a=>zbn y8 r4 n a=some o34) (((4:Nat):Int) - 0+2:Int).toNat 0 (by rw[hT57]; exact wm0 [.d,.d,.d,.d,.k,.d,.k] ⟨rfl,⟨rfl,⟨rfl,⟨rfl,⟨MB.cs ⟨qcG,qcG,qcG,qcG,qcG,qcG,qcG⟩,⟨rfl,⟨MB.zaL (zq0 (e:=zam) (t:=false) g9 (.cons (.cons (.same trivial) (.cons (.same trivial) .nil)) (.cons (.cons (.same trivial) (.cons (.same trivial) .nil)) (.cons (.cons (.same trivial) (.cons (.same trivial) .nil)) (.cons (.cons (.same trivial) (.cons (.fr (zex _ _ (fun h=>by cases h<;>contradiction))) .nil)) .nil))))),qcG⟩⟩⟩⟩⟩⟩⟩) j34 (fun _ h=>nomatch (show(none:Option (Out Unit Bool))=some o34 from h)) ?_;rintro n v35 j34;simp only[zbn]at j34;rw[congrFun hT57 v35];refine zab ?_;try simp only[rnA,Nat.reduceEqDiff,Nat.reduceLT]
  cases c11:(decide (v35<((4:Nat):Int)))
  ·rw[c11,cond_false]at j34;try simp only[rnA]
   replace j34:=qab j34; subst j34;exact lfj hT34 rfl (wm0 [] (by exact trivial))
  rw[c11,cond_true]at j34;obtain⟨x12,g13,j34⟩:=bind_some j34;obtain⟨r14,g15,j34⟩:=bind_some j34;try simp only[rnA,Nat.reduceEqDiff,Nat.reduceLT,Nat.reduceAdd,Nat.reduceLeDiff,zao,e10,zbP g13,(show v35<((4:Nat):Int)from e10 ▸ zcq g13),zbv g13 (zam.c false)]
  refine EvL.fn (zgE g15) rfl rfl (.cons (.zcf (.cons (.lit _) (.cons (zan _ _ (fun h=>nomatch h)) .nil))) .nil) ?_;try simp only[rnA,Nat.reduceEqDiff,Nat.reduceLT]
  obtain⟨o58,j58,j34⟩:=bind_some j34;obtain⟨T58,hT58⟩:=mkT fun a:Int=>⟨99,[(9,(.ptr 4 0)),(11,(.ptr 7 0)),(12,(dI a)),(33,(.sl 6 0 2 4 none 4)),(34,(dI ((4:Nat):Int))),(35,(dI v35))],[.gone,.gone,.gone,.gone,.cells [(dI r4.a0.grain),(fzE false zaa r4.a0.nodes),(dI r4.a1.grain),(fzE false zaa r4.a1.nodes),(dI r4.a2.grain),(fzE false zaa r4.a2.nodes)],.gone,.grow 2 (y8.map (zam.c false)),.cells [(dI x12.grain),(fzE false zaa x12.nodes)]]⟩
  refine EvL.jn T58 (fun a=>a=o58) ?_ ?_
  ·refine zab ?_;try simp only[rnA,Nat.reduceEqDiff]
   cases c16:r14
   ·rw[c16,cond_false]at j58;try simp only[rnA,Nat.reduceLT]
    replace j58:=qab j58; subst j58;exact lfj hT58 rfl (wm0 [.d,.d,.d,.d,.k,.d,.k,.k] ⟨rfl,⟨rfl,⟨rfl,⟨rfl,⟨MB.cs ⟨qcG,qcG,qcG,qcG,qcG,qcG,qcG⟩,⟨rfl,⟨MB.gs zam false y8,⟨MB.cs ⟨qcG,qcG,qcG⟩,qcG⟩⟩⟩⟩⟩⟩⟩⟩)
   rw[c16,cond_true]at j58;try simp only[rnA]
   replace j58:=qab j58; subst j58;exact lfj hT58 rfl (wm0 [.d,.d,.d,.d,.k,.d,.k,.k] ⟨rfl,⟨rfl,⟨rfl,⟨rfl,⟨MB.cs ⟨qcG,qcG,qcG,qcG,qcG,qcG,qcG⟩,⟨rfl,⟨MB.gs zam false y8,⟨MB.cs ⟨qcG,qcG,qcG⟩,qcG⟩⟩⟩⟩⟩⟩⟩⟩)
  rintro v12 rfl;rw[congrFun hT58 v12];refine zab ?_;obtain⟨r17,g18,j34⟩:=bind_some j34;try simp only[rnA,Nat.reduceEqDiff,Nat.reduceLT,Nat.reduceAdd,Nat.reduceLeDiff]
  refine EvL.fn (zje g18) rfl rfl (.cons (.zcf (.cons (.lit _) (.cons (zan _ _ (fun h=>nomatch h)) .nil))) .nil) ?_;obtain⟨r19,g20,j34⟩:=bind_some j34;try simp only[rnA,Nat.reduceEqDiff,Nat.reduceLT,Nat.reduceAdd,Nat.reduceLeDiff]
  refine EvL.fn (zkp g20) rfl rfl (.cons (.zcf (.cons (.lit _) (.cons (zan _ _ (fun h=>nomatch h)) .nil))) .nil) ?_;try simp only[rnA,Nat.reduceEqDiff,Nat.reduceLT]
  obtain⟨o59,j59,j34⟩:=bind_some j34;obtain⟨T59,hT59⟩:=mkT fun a:(Int×Int)=>⟨99,[(9,(.ptr 4 0)),(11,(.ptr 7 0)),(12,(dI v12)),(13,(dI r17.1)),(14,(dI r17.2)),(15,(dI r19.1)),(16,(dI r19.2)),(17,(dI a.1)),(18,(dI a.2)),(33,(.sl 6 0 2 4 none 4)),(34,(dI ((4:Nat):Int))),(35,(dI v35))],[.gone,.gone,.gone,.gone,.cells [(dI r4.a0.grain),(fzE false zaa r4.a0.nodes),(dI r4.a1.grain),(fzE false zaa r4.a1.nodes),(dI r4.a2.grain),(fzE false zaa r4.a2.nodes)],.gone,.grow 2 (y8.map (zam.c false)),.cells [(dI x12.grain),(fzE false zaa x12.nodes)]]⟩
  refine EvL.jn T59 (fun a=>a=o59) ?_ ?_
  ·refine zab ?_;try simp only[rnA,Nat.reduceEqDiff]
   cases c21:(v12 == 0)
   ·rw[c21,cond_false]at j59;try simp only[rnA]
    replace j59:=qab j59; subst j59;exact lfj hT59 rfl (wm0 [.d,.d,.d,.d,.k,.d,.k,.k] ⟨rfl,⟨rfl,⟨rfl,⟨rfl,⟨MB.cs ⟨qcG,qcG,qcG,qcG,qcG,qcG,qcG⟩,⟨rfl,⟨MB.gs zam false y8,⟨MB.cs ⟨qcG,qcG,qcG⟩,qcG⟩⟩⟩⟩⟩⟩⟩⟩)
   rw[c21,cond_true]at j59;obtain⟨r22,g23,j59⟩:=bind_some j59;try simp only[rnA,Nat.reduceEqDiff,Nat.reduceLT,Nat.reduceAdd,Nat.reduceLeDiff]
   refine EvL.fn (zjt g23) rfl rfl (.cons (.zcf (.cons (.lit _) (.cons (zan _ _ (fun h=>nomatch h)) .nil))) .nil) ?_;obtain⟨r24,g25,j59⟩:=bind_some j59;try simp only[rnA,Nat.reduceLT]
   refine EvL.fn (zj0 g25) rfl rfl (.cons (.zcf (.cons (.lit _) (.cons (zan _ _ (fun h=>nomatch h)) .nil))) .nil) ?_;try simp only[rnA,Nat.reduceEqDiff,Nat.reduceLT]
   replace j59:=qab j59; subst j59;exact lfj hT59 rfl (wm0 [.d,.d,.d,.d,.k,.d,.k,.k] ⟨rfl,⟨rfl,⟨rfl,⟨rfl,⟨MB.cs ⟨qcG,qcG,qcG,qcG,qcG,qcG,qcG⟩,⟨rfl,⟨MB.gs zam false y8,⟨MB.cs ⟨qcG,qcG,qcG⟩,qcG⟩⟩⟩⟩⟩⟩⟩⟩)
  rintro⟨v17,v18⟩ rfl;dsimp only at j34;rw[congrFun hT59 (v17,v18)];refine zab ?_;try simp only[rnA]
  obtain⟨o60,j60,j34⟩:=bind_some j34;obtain⟨T60,hT60⟩:=mkT fun a:Bool=>⟨99,[(9,(.ptr 4 0)),(11,(.ptr 7 0)),(12,(dI v12)),(33,(.sl 6 0 2 4 none 4)),(34,(dI ((4:Nat):Int))),(35,(dI v35)),(77,(dB a))],[.gone,.gone,.gone,.gone,.cells [(dI r4.a0.grain),(fzE false zaa r4.a0.nodes),(dI r4.a1.grain),(fzE false zaa r4.a1.nodes),(dI r4.a2.grain),(fzE false zaa r4.a2.nodes)],.gone,.grow 2 (y8.map (zam.c false)),.cells [(dI x12.grain),(fzE false zaa x12.nodes)]]⟩
  refine EvL.jn T60 (fun a=>a=o60) ?_ ?_
  ·refine zab ?_;obtain⟨r26,g27,j60⟩:=bind_some j60;try simp only[rnA,Nat.reduceEqDiff,Nat.reduceLT,Nat.reduceAdd,Nat.reduceLeDiff]
   refine EvL.fn (zeK g27) rfl rfl (.cons (.zcf (.cons (.lit _) (.cons (zan _ _ (fun h=>nomatch h)) .nil))) .nil) ?_;try simp only[rnA,Nat.reduceEqDiff,Nat.reduceLT]
   cases c28:(r26 == v12)
   ·rw[c28,cond_false]at j60;try simp only[rnA,Nat.reduceEqDiff,Nat.reduceLT]
    refine EvL.skip rfl ?_;try simp only[rnA,Nat.reduceEqDiff,Nat.reduceLT]
    refine EvL.skip rfl ?_;try simp only[rnA,Nat.reduceEqDiff,Nat.reduceLT]
    replace j60:=qab j60; subst j60;exact lfj hT60 rfl (wm0 [.d,.d,.d,.d,.k,.d,.k,.k] ⟨rfl,⟨rfl,⟨rfl,⟨rfl,⟨MB.cs ⟨qcG,qcG,qcG,qcG,qcG,qcG,qcG⟩,⟨rfl,⟨MB.gs zam false y8,⟨MB.cs ⟨qcG,qcG,qcG⟩,qcG⟩⟩⟩⟩⟩⟩⟩⟩)
   rw[c28,cond_true]at j60;obtain⟨r29,g30,j60⟩:=bind_some j60;try simp only[rnA,Nat.reduceEqDiff,Nat.reduceLT]
   refine EvL.fn (zgh g30) rfl rfl (.cons (.lit _) (.cons (.lit _) (.cons (.lit _) (.cons (.lit _) .nil)))) ?_;try simp only[rnA,Nat.reduceEqDiff,Nat.reduceLT]
   cases c31:r29
   ·rw[c31,cond_false]at j60;try simp only[rnA,Nat.reduceEqDiff,Nat.reduceLT]
    refine EvL.skip rfl ?_;try simp only[rnA,Nat.reduceEqDiff,Nat.reduceLT]
    replace j60:=qab j60; subst j60;exact lfj hT60 rfl (wm0 [.d,.d,.d,.d,.k,.d,.k,.k] ⟨rfl,⟨rfl,⟨rfl,⟨rfl,⟨MB.cs ⟨qcG,qcG,qcG,qcG,qcG,qcG,qcG⟩,⟨rfl,⟨MB.gs zam false y8,⟨MB.cs ⟨qcG,qcG,qcG⟩,qcG⟩⟩⟩⟩⟩⟩⟩⟩)
   rw[c31,cond_true]at j60;obtain⟨r32,g33,j60⟩:=bind_some j60;try simp only[rnA,Nat.reduceEqDiff,Nat.reduceLT]
   refine EvL.fn (zgh g33) rfl rfl (.cons (.lit _) (.cons (.lit _) (.cons (.lit _) (.cons (.lit _) .nil)))) ?_;try simp only[rnA,Nat.reduceEqDiff,Nat.reduceLT]
   replace j60:=qab j60; subst j60;exact lfj hT60 rfl (wm0 [.d,.d,.d,.d,.k,.d,.k,.k] ⟨rfl,⟨rfl,⟨rfl,⟨rfl,⟨MB.cs ⟨qcG,qcG,qcG,qcG,qcG,qcG,qcG⟩,⟨rfl,⟨MB.gs zam false y8,⟨MB.cs ⟨qcG,qcG,qcG⟩,qcG⟩⟩⟩⟩⟩⟩⟩⟩)
  rintro v77 rfl;rw[congrFun hT60 v77];refine zab ?_;try simp only[rnA,Nat.reduceEqDiff]
  cases c34:v77
  ·rw[c34,cond_false]at j34;try simp only[rnA,Nat.reduceEqDiff,Nat.reduceLT,Nat.reduceAdd,Nat.reduceLeDiff]
   obtain⟨o64,j64,j34⟩:=bind_some j34;obtain⟨T64,hT64⟩:=mkT fun a:Unit=>⟨99,[(9,(.ptr 4 0)),(33,(.sl 6 0 2 4 none 4)),(34,(dI ((4:Nat):Int))),(35,(dI v35))],[.gone,.gone,.gone,.gone,.cells [(dI r4.a0.grain),(fzE false zaa r4.a0.nodes),(dI r4.a1.grain),(fzE false zaa r4.a1.nodes),(dI r4.a2.grain),(fzE false zaa r4.a2.nodes)],.gone,.grow 2 (y8.map (zam.c false))]⟩
   refine EvL.jn T64 (fun a=>o64=.go a) ?_ ?_
   ·refine zab ?_;simp only[rnA];obtain⟨T67,hT67⟩:=mkT fun a:Int=>⟨99,[(9,(.ptr 4 0)),(11,(.ptr 7 0)),(12,(dI v12)),(33,(.sl 6 0 2 4 none 4)),(34,(dI ((4:Nat):Int))),(35,(dI v35)),(78,(.agg [(dI r4.a0.grain),(fzE false zaa r4.a0.nodes),(dI r4.a1.grain),(fzE false zaa r4.a1.nodes),(dI r4.a2.grain),(fzE false zaa r4.a2.nodes)])),(79,(dI a))],[.gone,.gone,.gone,.gone,.cells [(dI r4.a0.grain),(fzE false zaa r4.a0.nodes),(dI r4.a1.grain),(fzE false zaa r4.a1.nodes),(dI r4.a2.grain),(fzE false zaa r4.a2.nodes)],.gone,.grow 2 (y8.map (zam.c false)),.cells [(dI x12.grain),(fzE false zaa x12.nodes)]]⟩
    refine EvL.rounds (α:=Int) T67 (fun n a=>zbl r4 x12 v12 n a=some o64) (3 - 0+2:Int).toNat 0 (by rw[hT67]; exact wm0 [.d,.d,.d,.d,.k,.d,.k,.k] ⟨rfl,⟨rfl,⟨rfl,⟨rfl,⟨MB.cs ⟨qcG,qcG,qcG,qcG,qcG,qcG,qcG⟩,⟨rfl,⟨MB.gs zam false y8,⟨MB.cs ⟨qcG,qcG,qcG⟩,qcG⟩⟩⟩⟩⟩⟩⟩⟩) j64 (fun _ h=>nomatch (show(none:Option (Out Unit Bool))=some o64 from h)) ?_;rintro n v79 j64;simp only[zbl]at j64;rw[congrFun hT67 v79];refine zab ?_;try simp only[rnA,Nat.reduceEqDiff,Nat.reduceLT]
    cases c35:(decide (v79<3))
    ·rw[c35,cond_false]at j64;try simp only[rnA,Nat.reduceEqDiff,Nat.reduceLT,reduceCtorEq]
     replace j64:=qab j64; subst j64;exact lfj hT64 rfl (wm0 [.d,.d,.d,.d,.k,.d,.k] ⟨rfl,⟨rfl,⟨rfl,⟨rfl,⟨MB.cs ⟨qcG,qcG,qcG,qcG,qcG,qcG,qcG⟩,⟨rfl,⟨MB.gs zam false y8,qcG⟩⟩⟩⟩⟩⟩⟩)
    rw[c35,cond_true]at j64;obtain⟨x36,g37,j64⟩:=bind_some j64;try simp only[rnA,Nat.reduceEqDiff,Nat.reduceLT,Nat.reduceAdd,Nat.reduceLeDiff,zbP g37,(show v79<((3:Nat):Int)from zcq g37),qbh,(show([(dI r4.a0.grain),(fzE false zaa r4.a0.nodes),(dI r4.a1.grain),(fzE false zaa r4.a1.nodes),(dI r4.a2.grain),(fzE false zaa r4.a2.nodes)].drop (v79.toNat * 2)).take 2=[(dI x36.grain),(fzE false zaa x36.nodes)]from zrm (e:=zam) (t:=false) rfl g37 rfl),(show v79.toNat * 2+2≤6 from zup (e:=zam) rfl g37)]
    obtain⟨o68,j68,j64⟩:=bind_some j64;obtain⟨T68,hT68⟩:=mkT fun a:Bool=>⟨99,[(9,(.ptr 4 0)),(11,(.ptr 7 0)),(12,(dI v12)),(33,(.sl 6 0 2 4 none 4)),(34,(dI ((4:Nat):Int))),(35,(dI v35)),(78,(.agg [(dI r4.a0.grain),(fzE false zaa r4.a0.nodes),(dI r4.a1.grain),(fzE false zaa r4.a1.nodes),(dI r4.a2.grain),(fzE false zaa r4.a2.nodes)])),(79,(dI v79)),(96,(dB a))],[.gone,.gone,.gone,.gone,.cells [(dI r4.a0.grain),(fzE false zaa r4.a0.nodes),(dI r4.a1.grain),(fzE false zaa r4.a1.nodes),(dI r4.a2.grain),(fzE false zaa r4.a2.nodes)],.gone,.grow 2 (y8.map (zam.c false)),.cells [(dI x12.grain),(fzE false zaa x12.nodes)]]⟩
    refine EvL.jn T68 (fun a=>a=o68) ?_ ?_
    ·refine zab ?_;obtain⟨r38,g39,j68⟩:=bind_some j68;try simp only[rnA,Nat.reduceEqDiff,Nat.reduceLT,Nat.reduceAdd,Nat.reduceLeDiff]
     refine EvL.fn (zlk g39) rfl rfl (.cons (.zcf (.cons (.lit _) (.cons (zan _ _ (fun h=>nomatch h)) .nil))) (.cons (.zcf (.cons (.lit _) (.cons (zan _ _ (fun h=>nomatch h)) .nil))) .nil)) ?_;try simp only[rnA,Nat.reduceEqDiff,Nat.reduceLT]
     cases c40:(v12 == 0)
     ·rw[c40,cond_false]at j68;try simp only[rnA,Nat.reduceLT]
      refine EvL.skip rfl ?_;try simp only[rnA,Nat.reduceEqDiff,Nat.reduceLT]
      refine EvL.skip rfl ?_;try simp only[rnA,Nat.reduceEqDiff,Nat.reduceLT]
      cases c41:r38
      ·rw[c41,cond_false]at j68;try simp only[rnA]
       replace j68:=qab j68; subst j68;exact lfj hT68 rfl (wm0 [.d,.d,.d,.d,.k,.d,.k,.k] ⟨rfl,⟨rfl,⟨rfl,⟨rfl,⟨MB.cs ⟨qcG,qcG,qcG,qcG,qcG,qcG,qcG⟩,⟨rfl,⟨MB.gs zam false y8,⟨MB.cs ⟨qcG,qcG,qcG⟩,qcG⟩⟩⟩⟩⟩⟩⟩⟩)
      rw[c41,cond_true]at j68;try simp only[rnA,qcD]
      replace j68:=qab j68; subst j68;exact lfj hT68 rfl (wm0 [.d,.d,.d,.d,.k,.d,.k,.k] ⟨rfl,⟨rfl,⟨rfl,⟨rfl,⟨MB.cs ⟨qcG,qcG,qcG,qcG,qcG,qcG,qcG⟩,⟨rfl,⟨MB.gs zam false y8,⟨MB.cs ⟨qcG,qcG,qcG⟩,qcG⟩⟩⟩⟩⟩⟩⟩⟩)
     rw[c40,cond_true]at j68;obtain⟨r42,g43,j68⟩:=bind_some j68;try simp only[rnA,Nat.reduceEqDiff,Nat.reduceLT,Nat.reduceAdd,Nat.reduceLeDiff]
     refine EvL.fn (zgE g43) rfl rfl (.cons (.zcf (.cons (.lit _) (.cons (zan _ _ (fun h=>nomatch h)) .nil))) .nil) ?_;try simp only[rnA,Nat.reduceEqDiff,Nat.reduceLT]
     cases c44:r42
     ·rw[c44,cond_false]at j68;try simp only[rnA,Nat.reduceEqDiff,Nat.reduceLT]
      refine EvL.skip rfl ?_;try simp only[rnA,Nat.reduceEqDiff,Nat.reduceLT]
      cases c45:r38
      ·rw[c45,cond_false]at j68;try simp only[rnA]
       replace j68:=qab j68; subst j68;exact lfj hT68 rfl (wm0 [.d,.d,.d,.d,.k,.d,.k,.k] ⟨rfl,⟨rfl,⟨rfl,⟨rfl,⟨MB.cs ⟨qcG,qcG,qcG,qcG,qcG,qcG,qcG⟩,⟨rfl,⟨MB.gs zam false y8,⟨MB.cs ⟨qcG,qcG,qcG⟩,qcG⟩⟩⟩⟩⟩⟩⟩⟩)
      rw[c45,cond_true]at j68;try simp only[rnA,qcD]
      replace j68:=qab j68; subst j68;exact lfj hT68 rfl (wm0 [.d,.d,.d,.d,.k,.d,.k,.k] ⟨rfl,⟨rfl,⟨rfl,⟨rfl,⟨MB.cs ⟨qcG,qcG,qcG,qcG,qcG,qcG,qcG⟩,⟨rfl,⟨MB.gs zam false y8,⟨MB.cs ⟨qcG,qcG,qcG⟩,qcG⟩⟩⟩⟩⟩⟩⟩⟩)
     rw[c44,cond_true]at j68;obtain⟨r46,g47,j68⟩:=bind_some j68;try simp only[rnA,Nat.reduceEqDiff,Nat.reduceLT,Nat.reduceAdd,Nat.reduceLeDiff]
     refine EvL.fn (zl3 g47) rfl rfl (.cons (.zcf (.cons (.lit _) (.cons (zan _ _ (fun h=>nomatch h)) .nil))) (.cons (.zcf (.cons (.lit _) (.cons (zan _ _ (fun h=>nomatch h)) .nil))) .nil)) ?_;try simp only[rnA,Nat.reduceEqDiff,Nat.reduceLT]
     cases c48:r38
     ·rw[c48,cond_false]at j68;try simp only[rnA,Bool.false_beq]
      cases c49:r46
      ·rw[c49,cond_false]at j68;try simp only[rnA,Nat.reduceEqDiff,reduceIte,Nat.reduceLT,Nat.reduceAdd,Nat.reduceLeDiff,Nat.reduceMul,Nat.reduceSub,Int.reduceLE,Int.reduceLT,Int.reduceBEq,Nat.reduceBEq,reduceCtorEq,zac,zao,zat,zaA,zaD,zbi,Bool.false_beq,qcD,c3,c11,c34,c35,c40,c44,c48,c49]
       replace j68:=qab j68; subst j68;exact lfj hT68 rfl (wm0 [.d,.d,.d,.d,.k,.d,.k,.k] ⟨rfl,⟨rfl,⟨rfl,⟨rfl,⟨MB.cs ⟨qcG,qcG,qcG,qcG,qcG,qcG,qcG⟩,⟨rfl,⟨MB.gs zam false y8,⟨MB.cs ⟨qcG,qcG,qcG⟩,qcG⟩⟩⟩⟩⟩⟩⟩⟩)
      rw[c49,cond_true]at j68;try simp only[rnA,Nat.reduceEqDiff,reduceIte,Nat.reduceLT,Nat.reduceAdd,Nat.reduceLeDiff,Nat.reduceMul,Nat.reduceSub,Int.reduceLE,Int.reduceLT,Int.reduceBEq,Nat.reduceBEq,reduceCtorEq,zac,zao,zat,zaA,zaD,zbi,Bool.false_beq,qcD,c3,c11,c34,c35,c40,c44,c48,c49]
      replace j68:=qab j68; subst j68;exact lfj hT68 rfl (wm0 [.d,.d,.d,.d,.k,.d,.k,.k] ⟨rfl,⟨rfl,⟨rfl,⟨rfl,⟨MB.cs ⟨qcG,qcG,qcG,qcG,qcG,qcG,qcG⟩,⟨rfl,⟨MB.gs zam false y8,⟨MB.cs ⟨qcG,qcG,qcG⟩,qcG⟩⟩⟩⟩⟩⟩⟩⟩)
     rw[c48,cond_true]at j68;try simp only[qcD]
     cases c50:r46
     ·rw[c50,cond_false]at j68;try simp only[rnA]
      replace j68:=qab j68; subst j68;exact lfj hT68 rfl (wm0 [.d,.d,.d,.d,.k,.d,.k,.k] ⟨rfl,⟨rfl,⟨rfl,⟨rfl,⟨MB.cs ⟨qcG,qcG,qcG,qcG,qcG,qcG,qcG⟩,⟨rfl,⟨MB.gs zam false y8,⟨MB.cs ⟨qcG,qcG,qcG⟩,qcG⟩⟩⟩⟩⟩⟩⟩⟩)
     rw[c50,cond_true]at j68;try simp only[rnA]
     replace j68:=qab j68; subst j68;exact lfj hT68 rfl (wm0 [.d,.d,.d,.d,.k,.d,.k,.k] ⟨rfl,⟨rfl,⟨rfl,⟨rfl,⟨MB.cs ⟨qcG,qcG,qcG,qcG,qcG,qcG,qcG⟩,⟨rfl,⟨MB.gs zam false y8,⟨MB.cs ⟨qcG,qcG,qcG⟩,qcG⟩⟩⟩⟩⟩⟩⟩⟩)
    rintro v96 rfl;rw[congrFun hT68 v96];refine zab ?_;try simp only[rnA,Nat.reduceEqDiff]
    cases c51:v96
    ·rw[c51,cond_false]at j64;try simp only[rnA,Nat.reduceEqDiff,Nat.reduceLT]
     exact⟨(w64 (v79+1)),j64,by rw[hT67]; exact wm0 [.d,.d,.d,.d,.k,.d,.k,.k] ⟨rfl,⟨rfl,⟨rfl,⟨rfl,⟨MB.cs ⟨qcG,qcG,qcG,qcG,qcG,qcG,qcG⟩,⟨rfl,⟨MB.gs zam false y8,⟨MB.cs ⟨qcG,qcG,qcG⟩,qcG⟩⟩⟩⟩⟩⟩⟩⟩⟩
    rw[c51,cond_true]at j64;try simp only[rnA,Nat.reduceLT]
    replace j64:=qab j64; subst j64;dsimp only at j34;replace j34:=qab j34; subst j34;dsimp only at h;replace h:=qab h; subst h;exact za6.ret rfl (.lit _)
   rintro⟨⟩ rfl;dsimp only at j34;rw[congrFun hT64 ()];refine zab ?_;try simp only[rnA,Nat.reduceEqDiff,Nat.reduceLT]
   exact⟨(w64 (v35+1)),j34,by rw[hT57]; exact wm0 [.d,.d,.d,.d,.k,.d,.k] ⟨rfl,⟨rfl,⟨rfl,⟨rfl,⟨MB.cs ⟨qcG,qcG,qcG,qcG,qcG,qcG,qcG⟩,⟨rfl,⟨MB.gs zam false y8,qcG⟩⟩⟩⟩⟩⟩⟩⟩
  rw[c34,cond_true]at j34;try simp only[rnA,Nat.reduceLT]
  replace j34:=qab j34; subst j34;dsimp only at h;replace h:=qab h; subst h;exact za6.ret rfl (.lit _)
 rintro⟨⟩ rfl;dsimp only at h;rw[congrFun hT34 ()];refine zab ?_;try simp only[rnA,Nat.reduceLT]
 replace h:=qab h; subst h;exact za6.ret rfl (.lit _)
end Go.Dc
