/-
 What factor_table_gather_k2 computes. Conditions: none.
-/
import Derived.Test.YtnfgibomhkbcpaaFvJ2
set_option linter.unusedSimpArgs false
set_option linter.unusedVariables false
set_option maxRecDepth 100000
set_option maxHeartbeats 4000000
namespace Go.Dc
open Go Go.Mx Go.Lx Go.Proofs
def za0(p1:(List Int))(p0:S_factor_table):Nat→Int→Int→(List Int)→Option (Int×(List Int))
 | 0,_,_,_=>none
 | n+1,v9,v24,l3=>(
bif (decide (v24<(p1.length:Int)))then(
(zbl p1 v24).bind fun x4=>
(zaj p0 x4).bind fun r6=>
(zbl p0.factor.zad r6).bind fun x8=>
(zbl l3 v24).bind fun x10=>
(zgg l3 v24 x8).bind fun y12=>
za0 p1 p0 n (w64 (v9 * x8)) (w64 (v24+1)) y12)
else(
some (v9,l3)))
def za3(p1:(List Int))(p0:S_factor_table)(l3:(List Int)):Nat→Int→Int→(List Int)→Option (List Int)
 | 0,_,_,_=>none
 | n+1,v14,v15,l6=>(
bif (decide (0≤v15))then(
(zbl p1 v15).bind fun x19=>
(zaj p0 x19).bind fun r21=>
(zbl l6 r21).bind fun x23=>
(zgg l6 r21 v14).bind fun y25=>
(zbl l3 v15).bind fun x27=>
za3 p1 p0 l3 n (w64 (v14 * x27)) (w64 (v15 - 1)) y25)
else(
some l6))
def zaJ(p0:S_factor_table)(v9:Int):List (Int×Int×(List Int))→(List Int)→Option (Out3 (List Int) (List Int) Empty)
 | [],l4=>some (.go l4)
 | y33 :: ys,l4=>(
(zbl l4 y33.2.1).bind fun x34=>
(zbl p0.factor.w y33.1).bind fun x36=>
(zcR x34 x36).bind fun r38=>
(zgg l4 y33.2.1 r38.1).bind fun y40=>
bif r38.2 then(
zaJ p0 v9 ys y40)
else(
some (.brk y40)))
def zby(p0:S_factor_table)(p1:(List Int)):Option (S_api_Factor×Int):=
(zdY 8 (p1.length:Int) 0).bind fun y1=>
((za0 p1 p0 ((p1.length:Int) - 0+2:Int).toNat 1 0 y1:Option ((Int×(List Int))))).bind fun o=>match o with
|(v9,l3)=>(
(zdY 8 v9 0).bind fun y14=>
(zdY 8 (p0.factor.vars.length:Int) 0).bind fun y16=>
((za3 p1 p0 l3 ((w64 ((p1.length:Int) - 1)) - 0+2:Int).toNat 1 (w64 ((p1.length:Int) - 1)) y16:Option (List Int))).bind fun l6=>
(zaW p0.factor.zad l6).bind fun r29=>
(((zo3 r29.1 r29.2).bind fun u31=>
((zaJ p0 v9 u31 y14:Option (Out3 (List Int) (List Int) Empty))).bind fun o=>match o with
| .go l4=>(
some (true,l4))
| .brk l4=>(
some (false,l4))
| .ret r=>nomatch r:Option ((Bool×(List Int))))).bind fun o=>match o with
|(b7_0,l4)=>(
bif b7_0 then(
some ((S_api_Factor.mk p1 l3 l4),0))
else(
some ((S_api_Factor.mk [] [] []),6))))
def zcp:C:=
 .seq (rg [oW 3 0,
 oW 5 2,
 ⟨some 6,.alloc [(.slice none 0 0),(.slice none 0 0),(.slice none 0 0)],none⟩,
 oK 7 0])
 (.scope (.seq (rg [oM 19 1,
 oE 20 19,
 ⟨some 21,.mk 1 8 [(.int .i64 0)] (.s 20) (.s 20),none⟩,
 oM 8 21,
 oK 9 1])
 (.seq (.seq (rg [oM 22 1,
 oE 23 22,
 oK 24 0])
 (.scope (.block 0 (.loop (.seq (rg [oB 25 .lss 24 23])
 (.seq (.cond (.s 25) (.skip)
 (.exit 0))
 (.seq (.block 1 (.seq (rg [oM 26 24,
 oI 27 1 22 24,
 oL 28 27,
 oM 10 26,
 oM 11 28])
 (.seq (.reg true true [oM 29 8,
 oM 30 10,
 oF 31 0 3,
 oF 32 1 31,
 oL 33 32,
 oN 34 4 3,
 oM 35 11,
 oV 36 96 34 35,
 oI 37 1 33 36,
 oL 38 37,
 oI 39 1 29 30,
 oS 1 39 38])
 (rg [oM 40 9,
 oM 41 8,
 oM 42 10,
 oI 43 1 41 42,
 oL 44 43,
 oB 45 .mul 40 44,
 oM 9 45]))))
 (rg [oD 46 .add 24 1,
 oM 24 46]))))))))
 (.seq (.reg true false [oM 47 9,
 oF 49 0 3,
 oF 50 0 49,
 oL 51 50,
 oE 52 51,
 ⟨some 48,.mk 1 8 [(.int .i64 0)] (.s 47) (.s 47),none⟩,
 ⟨some 12,.alloc [(.slice none 0 0)],none⟩,
 ⟨none,.avo [(.s 50)] (.s 12),none⟩,
 oS 1 12 48,
 ⟨some 53,.mk 1 8 [(.int .i64 0)] (.s 52) (.s 52),none⟩,
 oM 13 53,
 oK 14 1])
 (.seq (.seq (rg [oM 54 1,
 oE 55 54,
 oD 56 .sub 55 1,
 oM 15 56])
 (.scope (.block 2 (.loop (.seq (.seq (rg [oM 57 15,
 oD 58 .geq 57 0])
 (.cond (.s 58) (.skip)
 (.exit 2)))
 (.seq (.block 3 (.seq (.reg true false [oM 61 13,
 oN 62 4 3,
 oM 63 1,
 oM 64 15,
 oI 65 1 63 64,
 oL 66 65,
 oM 68 14,
 oV 67 96 62 66,
 oI 69 1 61 67,
 oS 1 69 68])
 (rg [oM 70 14,
 oM 71 8,
 oM 72 15,
 oI 73 1 71 72,
 oL 74 73,
 oB 75 .mul 70 74,
 oM 14 75])))
 (rg [oM 59 15,
 oD 60 .sub 59 1,
 oM 15 60])))))))
 (.seq (rg [⟨some 16,.alloc [(.bool false)],none⟩,
 ⟨none,.store 1 (.s 16) (.c (.bool true)),none⟩])
 (.seq (.label 0)
 (.seq (.seq (rg [oF 76 0 3,
 oF 77 1 76,
 oL 78 77,
 oM 79 13,
 oV 80 93 78 79])
 (.scope (.block 4 (.zdI (.s 80) [81,82] (.seq (rg [oM 17 81])
 (rg [oM 18 82]))
 (.block 5 (.seq (.reg true true [oL 84 12,
 oM 85 18,
 oF 86 0 5,
 oL 87 86,
 oL 88 12,
 oM 89 18,
 oI 90 1 88 89,
 oL 91 90,
 oF 92 0 3,
 oF 93 2 92,
 oL 94 93,
 oM 95 17,
 oI 96 1 94 95,
 oL 97 96,
 ⟨some 98,.zbN (.s 87) [(.s 91),(.s 97)],none⟩,
 oM 83 98,
 oX 99 83 0,
 oX 100 83 1,
 oI 101 1 84 85,
 oS 1 101 99,
 oS 1 16 100])
 (.block 6 (.seq (rg [oL 103 16,
 ⟨some 104,.un .not (.s 103),none⟩,
 oM 102 104])
 (.cond (.s 102) (.exit 4)
 (.skip))))))))))
 (.seq (.seq (rg [oL 105 16,
 ⟨some 106,.un .not (.s 105),none⟩])
 (.cond (.s 106) (.seq (rg [⟨some 107,.build [(.slice none 0 0),(.slice none 0 0),(.slice none 0 0)] [],none⟩,
 oS 3 6 107,
 oK 7 6])
 (.ret))
 (.skip)))
 (.seq (rg [oM 108 1,
 oM 109 8,
 oL 110 12,
 ⟨some 111,.build [(.slice none 0 0),(.slice none 0 0),(.slice none 0 0)] [(0,1,(.s 108)),(1,1,(.s 109)),(2,1,(.s 110))],none⟩,
 oS 3 6 111,
 oK 7 0])
 (.ret)))))))))))
theorem zds:zgz mC 106=some (112,zcp,[.cell 6 (some 3),.tmp 7],false):=za6 (by kernel_rfl)
theorem zdL{p0:S_factor_table}{p1:(List Int)}{r:(S_api_Factor×Int)}(h:zby p0 p1=some r):Lx.FnA mC 106 [(.agg [(fzE false (eI .i64) p0.factor.vars),(fzE false (eI .i64) p0.factor.zad),(fzE false (eI .i64) p0.factor.w),(fzE false (eI .i64) p0.steps)]),(fzE false (eI .i64) p1),(.agg [(.clo 102 [] [])])] (.tup [(.agg [(fzE false (eI .i64) r.1.vars),(fzE false (eI .i64) r.1.zad),(fzE false (eI .i64) r.1.w)]),(dI r.2)]):=by
 refine FnA.of zds (zaX rfl) (qad rfl) ?_;unfold zby at h;simp only[zcp,zkA];refine zab ?_;try simp only[rnA,Nat.reduceEqDiff,Nat.reduceLT,Nat.reduceAdd,reduceCtorEq]
 refine EvL.scope (zab ?_);obtain⟨y1,g2,h⟩:=bind_some h;try simp only[rnA,Nat.reduceEqDiff,Nat.reduceLT,Nat.reduceAdd,reduceCtorEq,zaQ,(zat g2).1.1,(zat g2).1.2,qbv,(show List.replicate (Int.toNat (p1.length:Int)) [(dI 0)]=y1.map ((eI .i64).c true)from zbD g2 ((eI .i64).c true))]
 obtain⟨o8,j8,h⟩:=bind_some h;obtain⟨T8,hT8⟩:=mkT fun a:(Int×(List Int))=>⟨112,[(1,(fzE false (eI .i64) p1)),(3,(.ptr 0 0)),(5,(.ptr 1 0)),(6,(.ptr 2 0)),(8,(.sl 3 0 1 (Int.toNat (p1.length:Int)) (some (Int.toNat (p1.length:Int))) (Int.toNat (p1.length:Int)))),(9,(dI a.1))],[.cells [(fzE false (eI .i64) p0.factor.vars),(fzE false (eI .i64) p0.factor.zad),(fzE false (eI .i64) p0.factor.w),(fzE false (eI .i64) p0.steps)],.cells [(.clo 102 [] [])],.cells [zas,zas,zas],.els 1 (a.2.map ((eI .i64).c true))]⟩
 refine EvL.jn T8 (fun a=>a=o8∧a.2.length=(Int.toNat (p1.length:Int))) ?_ ?_
 ·refine zab ?_;simp only[rnA];obtain⟨T9,hT9⟩:=mkT fun a:(Int×Int×(List Int))=>⟨112,[(1,(fzE false (eI .i64) p1)),(3,(.ptr 0 0)),(5,(.ptr 1 0)),(6,(.ptr 2 0)),(8,(.sl 3 0 1 (Int.toNat (p1.length:Int)) (some (Int.toNat (p1.length:Int))) (Int.toNat (p1.length:Int)))),(9,(dI a.1)),(22,(fzE false (eI .i64) p1)),(23,(dI (p1.length:Int))),(24,(dI a.2.1))],[.cells [(fzE false (eI .i64) p0.factor.vars),(fzE false (eI .i64) p0.factor.zad),(fzE false (eI .i64) p0.factor.w),(fzE false (eI .i64) p0.steps)],.cells [(.clo 102 [] [])],.cells [zas,zas,zas],.els 1 (a.2.2.map ((eI .i64).c true))]⟩
  refine EvL.rounds (α:=(Int×Int×(List Int))) T9 (fun n a=>za0 p1 p0 n a.1 a.2.1 a.2.2=some o8∧a.2.2.length=(Int.toNat (p1.length:Int))) ((p1.length:Int) - 0+2:Int).toNat (1,0,y1) (by rw[hT9]; exact wm0 [.k,.k,.k,.k] ⟨MB.cs ⟨qci,qci,qci,qci,qci⟩,⟨MB.cs ⟨⟨qci,qci⟩,qci⟩,⟨MB.cs ⟨qci,qci,qci,qci⟩,⟨MB.es (eI .i64) true y1,qci⟩⟩⟩⟩) ⟨j8,zbo g2⟩ (fun _ h=>nomatch (show(none:Option (Int×(List Int)))=some o8 from h.1)) ?_;rintro n ⟨v9,v24,l3⟩ ⟨j8,el3⟩;simp only[za0]at j8;rw[congrFun hT9 (v9,v24,l3)];refine zab ?_;try simp only[rnA,Nat.reduceEqDiff,Nat.reduceLT]
  cases c3:(decide (v24<(p1.length:Int)))
  ·rw[c3,cond_false]at j8;try simp only[rnA]
   replace j8:=qab j8; subst j8;exact⟨_,⟨rfl,el3⟩,by rw[hT8]; exact wm0 [.k,.k,.k,.k] ⟨MB.cs ⟨qci,qci,qci,qci,qci⟩,⟨MB.cs ⟨⟨qci,qci⟩,qci⟩,⟨MB.cs ⟨qci,qci,qci,qci⟩,⟨MB.es (eI .i64) true l3,qci⟩⟩⟩⟩⟩
  rw[c3,cond_true]at j8;obtain⟨x4,g5,j8⟩:=bind_some j8;obtain⟨r6,g7,j8⟩:=bind_some j8;try simp only[rnA,Nat.reduceEqDiff,Nat.reduceLT,Nat.reduceAdd,Nat.reduceLeDiff,zaq (n:=1) (e:=(eI .i64)) rfl g5]
  refine EvL.fn (zam g7) rfl rfl (.cons (.za5 (.cons (zaa _ _ (fun h=>nomatch h)) (.cons (zaa _ _ (fun h=>nomatch h)) (.cons (zaa _ _ (fun h=>nomatch h)) (.cons (zaa _ _ (fun h=>nomatch h)) .nil))))) (.cons (.lit _) .nil)) ?_;obtain⟨x8,g9,j8⟩:=bind_some j8;obtain⟨x10,g11,j8⟩:=bind_some j8;obtain⟨y12,g13,j8⟩:=bind_some j8;try simp only[rnA,Nat.reduceEqDiff,Nat.reduceLT,Nat.reduceLeDiff,zaq (n:=1) (e:=(eI .i64)) rfl g9,el3,zbi g11,(show v24<(((Int.toNat (p1.length:Int)):Nat):Int)from el3 ▸ zbk g11),zaH g11 ((eI .i64).c true),(show(l3.map ((eI .i64).c true)).set v24.toNat [(dI x8)]=y12.map ((eI .i64).c true)from zbv g13 ((eI .i64).c true)),(zbb g13).trans el3,zaH (zjB g13) ((eI .i64).c true)]
  exact⟨((w64 (v9 * x8)),(w64 (v24+1)),y12),⟨j8,(zbb g13).trans el3⟩,by rw[hT9]; exact wm0 [.k,.k,.k,.k] ⟨MB.cs ⟨qci,qci,qci,qci,qci⟩,⟨MB.cs ⟨⟨qci,qci⟩,qci⟩,⟨MB.cs ⟨qci,qci,qci,qci⟩,⟨MB.es (eI .i64) true y12,qci⟩⟩⟩⟩⟩
 rintro⟨v9,l3⟩ ⟨rfl,el3⟩;dsimp only at h;rw[congrFun hT8 (v9,l3)];refine zab ?_;obtain⟨y14,g15,h⟩:=bind_some h;obtain⟨y16,g17,h⟩:=bind_some h;try simp only[rnA,Nat.reduceEqDiff,Nat.reduceLT,Nat.reduceAdd,Nat.reduceLeDiff,Nat.reduceBEq,zaQ,(zat g15).1.1,(zat g15).1.2,qbv,(show List.replicate (Int.toNat v9) [(dI 0)]=y14.map ((eI .i64).c true)from zbD g15 ((eI .i64).c true)),(zat g17).1.1,(zat g17).1.2,(show List.replicate (Int.toNat (p0.factor.vars.length:Int)) [(dI 0)]=y16.map ((eI .i64).c true)from zbD g17 ((eI .i64).c true))]
 obtain⟨o10,j10,h⟩:=bind_some h;obtain⟨T10,hT10⟩:=mkT fun a:(List Int)=>⟨112,[(1,(fzE false (eI .i64) p1)),(3,(.ptr 0 0)),(5,(.ptr 1 0)),(6,(.ptr 2 0)),(8,(.sl 3 0 1 (Int.toNat (p1.length:Int)) (some (Int.toNat (p1.length:Int))) (Int.toNat (p1.length:Int)))),(12,(.ptr 5 0)),(13,(.sl 6 0 1 (Int.toNat (p0.factor.vars.length:Int)) (some (Int.toNat (p0.factor.vars.length:Int))) (Int.toNat (p0.factor.vars.length:Int))))],[.cells [(fzE false (eI .i64) p0.factor.vars),(fzE false (eI .i64) p0.factor.zad),(fzE false (eI .i64) p0.factor.w),(fzE false (eI .i64) p0.steps)],.cells [(.clo 102 [] [])],.cells [zas,zas,zas],.els 1 (l3.map ((eI .i64).c true)),.els 1 (y14.map ((eI .i64).c true)),.cells [(.sl 4 0 1 (Int.toNat v9) (some (Int.toNat v9)) (Int.toNat v9))],.els 1 (a.map ((eI .i64).c true))]⟩
 refine EvL.jn T10 (fun a=>a=o10∧a.length=(Int.toNat (p0.factor.vars.length:Int))) ?_ ?_
 ·refine zab ?_;simp only[rnA];obtain⟨T11,hT11⟩:=mkT fun a:(Int×Int×(List Int))=>⟨112,[(1,(fzE false (eI .i64) p1)),(3,(.ptr 0 0)),(5,(.ptr 1 0)),(6,(.ptr 2 0)),(8,(.sl 3 0 1 (Int.toNat (p1.length:Int)) (some (Int.toNat (p1.length:Int))) (Int.toNat (p1.length:Int)))),(12,(.ptr 5 0)),(13,(.sl 6 0 1 (Int.toNat (p0.factor.vars.length:Int)) (some (Int.toNat (p0.factor.vars.length:Int))) (Int.toNat (p0.factor.vars.length:Int)))),(14,(dI a.1)),(15,(dI a.2.1))],[.cells [(fzE false (eI .i64) p0.factor.vars),(fzE false (eI .i64) p0.factor.zad),(fzE false (eI .i64) p0.factor.w),(fzE false (eI .i64) p0.steps)],.cells [(.clo 102 [] [])],.cells [zas,zas,zas],.els 1 (l3.map ((eI .i64).c true)),.els 1 (y14.map ((eI .i64).c true)),.cells [(.sl 4 0 1 (Int.toNat v9) (some (Int.toNat v9)) (Int.toNat v9))],.els 1 (a.2.2.map ((eI .i64).c true))]⟩
  refine EvL.rounds (α:=(Int×Int×(List Int))) T11 (fun n a=>za3 p1 p0 l3 n a.1 a.2.1 a.2.2=some o10∧a.2.2.length=(Int.toNat (p0.factor.vars.length:Int))) ((w64 ((p1.length:Int) - 1)) - 0+2:Int).toNat (1,(w64 ((p1.length:Int) - 1)),y16) (by rw[hT11]; exact wm0 [.k,.k,.k,.k,.k,.k,.k] ⟨MB.cs ⟨qci,qci,qci,qci,qci⟩,⟨MB.cs ⟨⟨qci,qci⟩,qci⟩,⟨MB.cs ⟨qci,qci,qci,qci⟩,⟨MB.es (eI .i64) true l3,⟨MB.es (eI .i64) true y14,⟨MB.cs ⟨rfl,qci⟩,⟨MB.es (eI .i64) true y16,qci⟩⟩⟩⟩⟩⟩⟩) ⟨j10,zbo g17⟩ (fun _ h=>nomatch (show(none:Option (List Int))=some o10 from h.1)) ?_;rintro n ⟨v14,v15,l6⟩ ⟨j10,el6⟩;simp only[za3]at j10;rw[congrFun hT11 (v14,v15,l6)];refine zab ?_;try simp only[rnA,Nat.reduceEqDiff,Nat.reduceLT]
  cases c18:(decide (0≤v15))
  ·rw[c18,cond_false]at j10;try simp only[rnA]
   replace j10:=qab j10; subst j10;exact⟨_,⟨rfl,el6⟩,by rw[hT10]; exact wm0 [.k,.k,.k,.k,.k,.k,.k] ⟨MB.cs ⟨qci,qci,qci,qci,qci⟩,⟨MB.cs ⟨⟨qci,qci⟩,qci⟩,⟨MB.cs ⟨qci,qci,qci,qci⟩,⟨MB.es (eI .i64) true l3,⟨MB.es (eI .i64) true y14,⟨MB.cs ⟨rfl,qci⟩,⟨MB.es (eI .i64) true l6,qci⟩⟩⟩⟩⟩⟩⟩⟩
  rw[c18,cond_true]at j10;obtain⟨x19,g20,j10⟩:=bind_some j10;obtain⟨r21,g22,j10⟩:=bind_some j10;try simp only[rnA,Nat.reduceEqDiff,Nat.reduceLT,Nat.reduceAdd,Nat.reduceLeDiff,zaq (n:=1) (e:=(eI .i64)) rfl g20]
  refine EvL.fn (zam g22) rfl rfl (.cons (.za5 (.cons (zaa _ _ (fun h=>nomatch h)) (.cons (zaa _ _ (fun h=>nomatch h)) (.cons (zaa _ _ (fun h=>nomatch h)) (.cons (zaa _ _ (fun h=>nomatch h)) .nil))))) (.cons (.lit _) .nil)) ?_;obtain⟨x23,g24,j10⟩:=bind_some j10;obtain⟨y25,g26,j10⟩:=bind_some j10;obtain⟨x27,g28,j10⟩:=bind_some j10;try simp only[rnA,Nat.reduceEqDiff,Nat.reduceLT,Nat.reduceLeDiff,el6,zbi g24,(show r21<(((Int.toNat (p0.factor.vars.length:Int)):Nat):Int)from el6 ▸ zbk g24),zaH g24 ((eI .i64).c true),(show(l6.map ((eI .i64).c true)).set r21.toNat [(dI v14)]=y25.map ((eI .i64).c true)from zbv g26 ((eI .i64).c true)),el3,zbi g28,(show v15<(((Int.toNat (p1.length:Int)):Nat):Int)from el3 ▸ zbk g28),zaH g28 ((eI .i64).c true)]
  exact⟨((w64 (v14 * x27)),(w64 (v15 - 1)),y25),⟨j10,(zbb g26).trans el6⟩,by rw[hT11]; exact wm0 [.k,.k,.k,.k,.k,.k,.k] ⟨MB.cs ⟨qci,qci,qci,qci,qci⟩,⟨MB.cs ⟨⟨qci,qci⟩,qci⟩,⟨MB.cs ⟨qci,qci,qci,qci⟩,⟨MB.es (eI .i64) true l3,⟨MB.es (eI .i64) true y14,⟨MB.cs ⟨rfl,qci⟩,⟨MB.es (eI .i64) true y25,qci⟩⟩⟩⟩⟩⟩⟩⟩
 rintro l6 ⟨rfl,el6⟩;rw[congrFun hT10 l6];refine zab ?_;try simp only[rnA,Nat.reduceEqDiff,Nat.reduceLT,Nat.reduceAdd,Nat.reduceLeDiff]
 refine EvL.zeU (S':=⟨112,[(1,(fzE false (eI .i64) p1)),(3,(.ptr 0 0)),(5,(.ptr 1 0)),(6,(.ptr 2 0)),(8,(.sl 3 0 1 (Int.toNat (p1.length:Int)) (some (Int.toNat (p1.length:Int))) (Int.toNat (p1.length:Int)))),(12,(.ptr 5 0)),(16,(.ptr 7 0)),(78,(fzE false (eI .i64) p0.factor.zad)),(79,(fzE true (eI .i64) l6))],[.cells [(fzE false (eI .i64) p0.factor.vars),(fzE false (eI .i64) p0.factor.zad),(fzE false (eI .i64) p0.factor.w),(fzE false (eI .i64) p0.steps)],.cells [(.clo 102 [] [])],.cells [zas,zas,zas],.els 1 (l3.map ((eI .i64).c true)),.els 1 (y14.map ((eI .i64).c true)),.cells [(.sl 4 0 1 (Int.toNat v9) (some (Int.toNat v9)) (Int.toNat v9))],.gone,.cells [(dB true)]]⟩) (zbE.m0 [.k,.k,.k,.k,.k,.k,.f,.k] rfl (msq (msq (msq (msq (msq (msq (msq (msq (mf rfl (zaR (e:=(eI .i64)) (t:=true) rfl rfl (.inl rfl) (el6).symm (el6).symm (fun k h=>by cases h; exact qaj _) (fun h=>by cases h<;>rfl)) trivial))))))))) ⟨MB.cs ⟨qci,qci,qci,qci,qci⟩,⟨MB.cs ⟨⟨qci,qci⟩,qci⟩,⟨MB.cs ⟨qci,qci,qci,qci⟩,⟨MB.es (eI .i64) true l3,⟨MB.es (eI .i64) true y14,⟨MB.cs ⟨rfl,qci⟩,⟨rfl,⟨MB.cs ⟨qci,qci⟩,qci⟩⟩⟩⟩⟩⟩⟩⟩) (zab ?_);obtain⟨r29,g30,h⟩:=bind_some h;try simp only[rnA]
 refine EvL.fnS (zbh g30) rfl rfl (.cons (zag _ _ (fun h=>by cases h<;>contradiction)) (.cons (zag _ _ (fun h=>by cases h<;>contradiction)) .nil)) ⟨(zac _ _),(zac _ _),qci⟩ ⟨qci,⟨⟨rfl,zac _ _,qci⟩,⟨rfl,zac _ _,qci⟩,qci⟩⟩ ?_;try simp only[rnA,Nat.reduceLT]
 obtain⟨o13,j13,h⟩:=bind_some h;obtain⟨T13,hT13⟩:=mkT fun a:(Bool×(List Int))=>⟨112,[(1,(fzE false (eI .i64) p1)),(6,(.ptr 2 0)),(8,(.sl 3 0 1 (Int.toNat (p1.length:Int)) (some (Int.toNat (p1.length:Int))) (Int.toNat (p1.length:Int)))),(12,(.ptr 5 0)),(16,(.ptr 7 0))],[.gone,.gone,.cells [zas,zas,zas],.els 1 (l3.map ((eI .i64).c true)),.els 1 (a.2.map ((eI .i64).c true)),.cells [(.sl 4 0 1 (Int.toNat v9) (some (Int.toNat v9)) (Int.toNat v9))],.gone,.cells [(dB a.1)]]⟩
 refine EvL.jn T13 (fun a=>a=o13∧a.2.length=(Int.toNat v9)) ?_ ?_
 ·refine zab ?_;try simp only[rnA]
  obtain⟨u31,g32,j13⟩:=bind_some j13;obtain⟨o14,j14,j13⟩:=bind_some j13;obtain⟨T14,hT14⟩:∃ T:(List Int)→List LB,T=(fun a=>[.cells [(fzE false (eI .i64) p0.factor.vars),(fzE false (eI .i64) p0.factor.zad),(fzE false (eI .i64) p0.factor.w),(fzE false (eI .i64) p0.steps)],.cells [(.clo 102 [] [])],.cells [zas,zas,zas],.els 1 (l3.map ((eI .i64).c true)),.els 1 (a.map ((eI .i64).c true)),.cells [(.sl 4 0 1 (Int.toNat v9) (some (Int.toNat v9)) (Int.toNat v9))],.gone,.cells [(dB true)]]):=⟨_,rfl⟩;obtain⟨TX14,hTX14⟩:∃ T:(List Int)→List LB,T=(fun a=>[.cells [(fzE false (eI .i64) p0.factor.vars),(fzE false (eI .i64) p0.factor.zad),(fzE false (eI .i64) p0.factor.w),(fzE false (eI .i64) p0.steps)],.cells [(.clo 102 [] [])],.cells [zas,zas,zas],.els 1 (l3.map ((eI .i64).c true)),.els 1 (a.map ((eI .i64).c true)),.cells [(.sl 4 0 1 (Int.toNat v9) (some (Int.toNat v9)) (Int.toNat v9))],.gone,.cells [(dB false)]]):=⟨_,rfl⟩;refine EvL.zeU (S':=⟨112,[(1,(fzE false (eI .i64) p1)),(3,(.ptr 0 0)),(5,(.ptr 1 0)),(6,(.ptr 2 0)),(8,(.sl 3 0 1 (Int.toNat (p1.length:Int)) (some (Int.toNat (p1.length:Int))) (Int.toNat (p1.length:Int)))),(12,(.ptr 5 0)),(16,(.ptr 7 0)),(80,(.clo 135 [] [(.fptr false ((eL (eI .i64)).c false r29.1)),(.fptr false ((eL (eI .i64)).c false r29.2))]))],T14 y14⟩) (by rw[hT14]; exact wm0 [.k,.k,.k,.k,.k,.k,.k,.k] ⟨MB.cs ⟨qci,qci,qci,qci,qci⟩,⟨MB.cs ⟨⟨qci,qci⟩,qci⟩,⟨MB.cs ⟨qci,qci,qci,qci⟩,⟨MB.es (eI .i64) true l3,⟨MB.es (eI .i64) true y14,⟨MB.cs ⟨rfl,qci⟩,⟨MB.same trivial,⟨MB.cs ⟨qci,qci⟩,qci⟩⟩⟩⟩⟩⟩⟩⟩) ?_;refine EvL.zjj (n0:=8) (zbc g32) rfl (bm:=.block 5 (.seq (.reg true true [⟨some 84,.load none (.s 12),none⟩,⟨some 85,.mov (.s 18),none⟩,⟨some 86,.fld 0 (.s 5),none⟩,⟨some 87,.load none (.s 86),none⟩,⟨some 88,.load none (.s 12),none⟩,⟨some 89,.mov (.s 18),none⟩,⟨some 90,.idxS 1 (.s 88) (.s 89),none⟩,⟨some 91,.load none (.s 90),none⟩,⟨some 92,.fld 0 (.s 3),none⟩,⟨some 93,.fld 2 (.s 92),none⟩,⟨some 94,.load none (.s 93),none⟩,⟨some 95,.mov (.s 17),none⟩,⟨some 96,.idxS 1 (.s 94) (.s 95),none⟩,⟨some 97,.load none (.s 96),none⟩,⟨some 98,.zbN (.s 87) [(.s 91),(.s 97)],none⟩,⟨some 83,.mov (.s 98),none⟩,⟨some 99,.ext (.s 83) 0,none⟩,⟨some 100,.ext (.s 83) 1,none⟩,⟨some 101,.idxS 1 (.s 84) (.s 85),none⟩,⟨none,.store 1 (.s 101) (.s 99),none⟩,⟨none,.store 1 (.s 16) (.s 100),none⟩]) (.block 6 (.seq (.reg false false [⟨some 103,.load none (.s 16),none⟩,⟨some 104,.un .not (.s 103),none⟩,⟨some 102,.mov (.s 104),none⟩]) (.cond (.s 102) (.exit 4) (.skip)))))) rfl T14 (fun i a=>zaJ p0 v9 (u31.drop i) a=some o14∧a.length=(Int.toNat v9)) (fun x L1=>match x with | .normal=>∃ a,o14=.go a∧a.length=(Int.toNat v9)∧L1=T14 a | .exit id=>∃ a,o14=.brk a∧a.length=(Int.toNat v9)∧id=4∧L1=TX14 a | .ret=>L1.length=8∧zef (8+1) L1∧(zfg [.cell 6 (some 3),.tmp 7] ((.tup [(.agg [(fzE false (eI .i64) r.1.vars),(fzE false (eI .i64) r.1.zad),(fzE false (eI .i64) r.1.w)]),(dI r.2)]))) .ret ⟨112,[(1,(fzE false (eI .i64) p1)),(3,(.ptr 0 0)),(5,(.ptr 1 0)),(6,(.ptr 2 0)),(8,(.sl 3 0 1 (Int.toNat (p1.length:Int)) (some (Int.toNat (p1.length:Int))) (Int.toNat (p1.length:Int)))),(12,(.ptr 5 0)),(16,(.ptr 7 0)),(80,(.clo 135 [] [(.fptr false ((eL (eI .i64)).c false r29.1)),(.fptr false ((eL (eI .i64)).c false r29.2))]))],L1 ++ [.lost]⟩| _=>False) y14 ?_ (qaS _) ?_ ?_ ?_ (fun d L1 hx=>hx.elim) ?_ ?_ ?_ ?_ ?_ ?_
  ·intro a; rw[hT14]; rfl
  ·exact⟨qci,(qad rfl),(qad rfl),(qad rfl),(qad rfl),(qad rfl),(qad rfl),⟨qci,⟨qci,qci,qci⟩⟩,qci⟩
  ·intro a; rw[hT14]; exact⟨⟨qci,qci,qci,qci,qci⟩,⟨⟨qci,qci⟩,qci⟩,⟨qci,qci,qci,qci⟩,(zcb (eI .i64) _ _ _),(zcb (eI .i64) _ _ _),⟨(qad rfl),qci⟩,qci,⟨qci,qci⟩,qci⟩
  ·intro x L1 hx;cases x with
   | normal=>obtain⟨a,_,_,rfl⟩:=hx; exact⟨by rw[hT14]; rfl,by rw[hT14]; exact⟨⟨qci,qci,qci,qci,qci⟩,⟨⟨qci,qci⟩,qci⟩,⟨qci,qci,qci,qci⟩,(zcb (eI .i64) _ _ _),(zcb (eI .i64) _ _ _),⟨(qad rfl),qci⟩,qci,⟨qci,qci⟩,qci⟩⟩
   | ret=>exact⟨hx.1,hx.2.1⟩
   | exit id=>obtain⟨a,_,_,_,rfl⟩:=hx; exact⟨by rw[hTX14]; rfl,by rw[hTX14]; exact⟨⟨qci,qci,qci,qci,qci⟩,⟨⟨qci,qci⟩,qci⟩,⟨qci,qci,qci,qci⟩,(zcb (eI .i64) _ _ _),(zcb (eI .i64) _ _ _),⟨(qad rfl),qci⟩,qci,⟨qci,qci⟩,qci⟩⟩
   | panic d=>exact hx.elim
  ·exact⟨j14,zbo g15⟩
  ·rintro i l4 y33 args G lpF hy ⟨hi14,el4⟩ ⟨rfl,rfl⟩ hkin;rw[zeJ hy]at hi14;simp only[zaJ]at hi14;refine⟨_,_,rfl,rfl,?_⟩;rw[congrFun hT14 l4];refine zab ?_;obtain⟨x34,g35,hi14⟩:=bind_some hi14;obtain⟨x36,g37,hi14⟩:=bind_some hi14;obtain⟨r38,g39,hi14⟩:=bind_some hi14;try simp only[rnA,Nat.reduceEqDiff,Nat.reduceLT,Nat.reduceAdd,el4,zbi g35,(show y33.2.1<(((Int.toNat v9):Nat):Int)from el4 ▸ zbk g35),zaH g35 ((eI .i64).c true),zaq (n:=1) (e:=(eI .i64)) rfl g37]
   refine EvL.fnv rfl rfl (zfV g39) rfl (.cons (.lit _) (.cons (.lit _) .nil)) ?_;obtain⟨y40,g41,hi14⟩:=bind_some hi14;try simp only[rnA,Nat.reduceEqDiff,Nat.reduceLT,Nat.reduceLeDiff,el4,zbi g35,(show y33.2.1<(((Int.toNat v9):Nat):Int)from el4 ▸ zbk g35),zaH g35 ((eI .i64).c true),(show(l4.map ((eI .i64).c true)).set y33.2.1.toNat [(dI r38.1)]=y40.map ((eI .i64).c true)from zbv g41 ((eI .i64).c true))]
   cases c42:r38.2
   ·rw[c42,cond_false]at hi14;try simp only[rnA,Nat.reduceEqDiff]
    replace hi14:=qab hi14; subst hi14;exact⟨TX14 y40,by rw[hTX14]; rfl,by rw[hTX14]; exact zbE.mK [.k,.k,.k,.k,.k,.k,.k,.k,.k,.k] rfl rfl qci ⟨MB.cs ⟨qci,qci,qci,qci,qci⟩,⟨MB.cs ⟨⟨qci,qci⟩,qci⟩,⟨MB.cs ⟨qci,qci,qci,qci⟩,⟨MB.es (eI .i64) true l3,⟨MB.es (eI .i64) true y40,⟨MB.cs ⟨rfl,qci⟩,⟨MB.same trivial,⟨MB.cs ⟨qci,qci⟩,⟨.same (hkin _ (by decide)),⟨MB.same (zcB _ _ _ _),qci⟩⟩⟩⟩⟩⟩⟩⟩⟩⟩,y40,rfl,(zbb g41).trans el4,rfl⟩
   rw[c42,cond_true]at hi14;try simp only[rnA]
   exact⟨T14 y40,by rw[hT14]; rfl,by rw[hT14]; exact zbE.mK [.k,.k,.k,.k,.k,.k,.k,.k,.k,.k] rfl rfl qci ⟨MB.cs ⟨qci,qci,qci,qci,qci⟩,⟨MB.cs ⟨⟨qci,qci⟩,qci⟩,⟨MB.cs ⟨qci,qci,qci,qci⟩,⟨MB.es (eI .i64) true l3,⟨MB.es (eI .i64) true y40,⟨MB.cs ⟨rfl,qci⟩,⟨MB.same trivial,⟨MB.cs ⟨qci,qci⟩,⟨.same (hkin _ (by decide)),⟨MB.same (zcB _ _ _ _),qci⟩⟩⟩⟩⟩⟩⟩⟩⟩⟩,y40,⟨hi14,(zbb g41).trans el4⟩,rfl⟩
  ·rintro l4 ⟨hi14,el4⟩;rw[qaW]at hi14;simp only[zaJ]at hi14;exact⟨l4,(qab hi14).symm,el4,rfl⟩
  ·rintro _ ⟨l4,oeq,el4,rfl⟩;have oeq2:=oeq.symm;subst oeq2;dsimp only at j13;rw[congrFun hT14 l4];refine zab ?_;try simp only[rnA]
   replace j13:=qab j13; subst j13;exact⟨_,⟨rfl,el4⟩,by rw[hT13]; exact wm0 [.d,.d,.k,.k,.k,.k,.d,.k] ⟨rfl,⟨rfl,⟨MB.cs ⟨qci,qci,qci,qci⟩,⟨MB.es (eI .i64) true l3,⟨MB.es (eI .i64) true l4,⟨MB.cs ⟨rfl,qci⟩,⟨rfl,⟨MB.cs ⟨qci,qci⟩,qci⟩⟩⟩⟩⟩⟩⟩⟩⟩
  ·rintro id _ ⟨l4,oeq,el4,rfl,rfl⟩;rw[oeq]at j13;dsimp only at j13;rw[congrFun hTX14 l4];refine zab ?_;try simp only[rnA]
   replace j13:=qab j13; subst j13;exact⟨_,⟨rfl,el4⟩,by rw[hT13]; exact wm0 [.d,.d,.k,.k,.k,.k,.d,.k] ⟨rfl,⟨rfl,⟨MB.cs ⟨qci,qci,qci,qci⟩,⟨MB.es (eI .i64) true l3,⟨MB.es (eI .i64) true l4,⟨MB.cs ⟨rfl,qci⟩,⟨rfl,⟨MB.cs ⟨qci,qci⟩,qci⟩⟩⟩⟩⟩⟩⟩⟩⟩
  intro L1 hx; exact hx.2.2
 rintro⟨b7_0,l4⟩ ⟨rfl,el4⟩;dsimp only at h;rw[congrFun hT13 (b7_0,l4)];refine zab ?_;try simp only[rnA,Nat.reduceEqDiff,Nat.reduceLT]
 cases c43:b7_0
 ·rw[c43,cond_false]at h;try simp only[rnA,Nat.reduceEqDiff,Nat.reduceLT,Nat.reduceAdd,Nat.reduceLeDiff]
  replace h:=qab h; subst h;exact zfg.ret rfl (Snp.zdq (.cons (.za5 (.cons (zai (eI .i64)) (.cons (zai (eI .i64)) (.cons (zai (eI .i64)) .nil)))) (.cons (.lit _) .nil)))
 rw[c43,cond_true]at h;try simp only[rnA,Nat.reduceEqDiff,Nat.reduceLT,Nat.reduceAdd,Nat.reduceLeDiff]
 replace h:=qab h; subst h;exact zfg.ret rfl (Snp.zdq (.cons (.za5 (.cons (zaa _ _ (fun h=>nomatch h)) (.cons (zb7 (e:=(eI .i64)) (t:=true) rfl (.inl rfl) (el3).symm (el3).symm (fun k h=>by cases h; exact qaj _) (fun h=>nomatch h)) (.cons (zb7 (e:=(eI .i64)) (t:=true) rfl (.inl rfl) (el4).symm (el4).symm (fun k h=>by cases h; exact qaj _) (fun h=>nomatch h)) .nil)))) (.cons (.lit _) .nil)))
def zcM(p0:S_api_Factor)(p1:Int):Option (S_api_Factor×Int):=
(zav p0).bind fun r1=>
bif (r1.2 == 0)then(
(zaj r1.1 p1).bind fun r4=>
bif (decide (r4<0))then(
some ((S_api_Factor.mk [] [] []),4))
else(
(zc7 8 r1.1.factor.vars).bind fun y7=>
(zpA y7 r4 (w64 (r4+1))).bind fun y9=>
(zby r1.1 y9).bind fun r11=>
some (r11.1,r11.2)))
else(
some ((S_api_Factor.mk [] [] []),r1.2))
def zdR:C:=
 .seq (rg [oW 3 0,
 oW 5 2,
 ⟨some 6,.alloc [(.slice none 0 0),(.slice none 0 0),(.slice none 0 0)],none⟩,
 oK 7 0])
 (.seq (rg [oN 12 3 3,
 oU 13 89 12,
 oM 11 13,
 oX 14 11 0,
 oX 15 11 1,
 ⟨some 8,.alloc [(.slice none 0 0),(.slice none 0 0),(.slice none 0 0),(.slice none 0 0)],none⟩,
 oS 4 8 14,
 oM 9 15])
 (.seq (.seq (rg [oM 16 9,
 oD 17 .neq 16 0])
 (.cond (.s 17) (.seq (rg [⟨some 18,.build [(.slice none 0 0),(.slice none 0 0),(.slice none 0 0)] [],none⟩,
 oM 19 9,
 oS 3 6 18,
 oM 7 19])
 (.ret))
 (.skip)))
 (.seq (rg [oN 20 4 8,
 oM 21 1,
 oV 22 96 20 21,
 oM 10 22])
 (.seq (.seq (rg [oM 23 10,
 oD 24 .lss 23 0])
 (.cond (.s 24) (.seq (rg [⟨some 25,.build [(.slice none 0 0),(.slice none 0 0),(.slice none 0 0)] [],none⟩,
 oS 3 6 25,
 oK 7 4])
 (.ret))
 (.skip)))
 (.seq (.reg true false [oN 26 4 8,
 oF 27 0 8,
 oF 28 0 27,
 oL 29 28,
 oM 31 10,
 oM 32 10,
 oD 33 .add 32 1,
 oN 35 1 5,
 oU 30 49 29,
 ⟨none,.avo [(.s 8),(.s 5)] (.s 30),none⟩,
 ⟨some 34,.call 103 [(.s 30),(.s 31),(.s 33)],none⟩,
 ⟨some 36,.call 106 [(.s 26),(.s 34),(.s 35)],none⟩,
 oX 37 36 0,
 oX 38 36 1,
 oS 3 6 37,
 oM 7 38])
 (.ret))))))
theorem zfe:zgz mC 100=some (39,zdR,[.cell 6 (some 3),.tmp 7],false):=za6 (by kernel_rfl)
theorem zfl{p0:S_api_Factor}{p1:Int}{r:(S_api_Factor×Int)}(h:zcM p0 p1=some r):Lx.FnA mC 100 [(.agg [(fzE false (eI .i64) p0.vars),(fzE false (eI .i64) p0.zad),(fzE false (eI .i64) p0.w)]),(dI p1),(.agg [(.clo 102 [] [])])] (.tup [(.agg [(fzE false (eI .i64) r.1.vars),(fzE false (eI .i64) r.1.zad),(fzE false (eI .i64) r.1.w)]),(dI r.2)]):=by
 refine FnA.of zfe (zaX rfl) (qad rfl) ?_;unfold zcM at h;simp only[zdR,zkA];refine zab ?_;obtain⟨r1,g2,h⟩:=bind_some h;try simp only[rnA,Nat.reduceEqDiff,Nat.reduceLT,Nat.reduceAdd,Nat.reduceLeDiff,reduceCtorEq]
 refine EvL.fnS (zaS g2) rfl rfl (.cons (Mzs.agg (.cons (zag _ _ (fun h=>by cases h<;>contradiction)) (.cons (zag _ _ (fun h=>by cases h<;>contradiction)) (.cons (zag _ _ (fun h=>by cases h<;>contradiction)) .nil)))) .nil) ⟨⟨(zac _ _),(zac _ _),(zac _ _),qci⟩,qci⟩ ⟨⟨(zac _ _),(zac _ _),(zac _ _),(zac _ _),qci⟩,qci,qci⟩ ?_;try simp only[rnA,Nat.reduceEqDiff,Nat.reduceLT,Nat.reduceAdd,Nat.reduceLeDiff,reduceCtorEq]
 cases c3:(r1.2 == 0)
 ·rw[c3,cond_false]at h;try simp only[rnA,Nat.reduceEqDiff,Nat.reduceLT,Nat.reduceAdd,Nat.reduceLeDiff,reduceCtorEq]
  replace h:=qab h; subst h;exact zfg.ret rfl (Snp.zdq (.cons (.za5 (.cons (zai (eI .i64)) (.cons (zai (eI .i64)) (.cons (zai (eI .i64)) .nil)))) (.cons (.lit _) .nil)))
 rw[c3,cond_true]at h;obtain⟨r4,g5,h⟩:=bind_some h;try simp only[rnA,Nat.reduceEqDiff,Nat.reduceLT,Nat.reduceAdd,Nat.reduceLeDiff,reduceCtorEq]
 refine EvL.fn (zam g5) rfl rfl (.cons (.za5 (.cons (zaa _ _ (fun h=>nomatch h)) (.cons (zaa _ _ (fun h=>nomatch h)) (.cons (zaa _ _ (fun h=>nomatch h)) (.cons (zaa _ _ (fun h=>nomatch h)) .nil))))) (.cons (.lit _) .nil)) ?_;try simp only[rnA,Nat.reduceEqDiff,Nat.reduceLT,reduceCtorEq]
 cases c6:(decide (r4<0))
 ·rw[c6,cond_false]at h;obtain⟨y7,g8,h⟩:=bind_some h;try simp only[rnA,Nat.reduceEqDiff,Nat.reduceLT,Nat.reduceAdd,Nat.reduceLeDiff,reduceCtorEq]
  refine EvL.clone (t:=false) (zs:=r1.1.factor.vars) g8 rfl rfl ?_;obtain⟨y9,g10,h⟩:=bind_some h;try simp only[rnA,Nat.reduceEqDiff,Nat.reduceLT,Nat.reduceAdd,Nat.reduceBEq,reduceCtorEq]
  refine EvL.delete (zs:=y7) (t:=true) g10 rfl rfl rfl rfl rfl rfl ?_;refine EvL.zeU (S':=⟨39,[(6,(.ptr 2 0)),(26,(.agg [(fzE false (eI .i64) r1.1.factor.vars),(fzE false (eI .i64) r1.1.factor.zad),(fzE false (eI .i64) r1.1.factor.w),(fzE false (eI .i64) r1.1.steps)])),(34,(fzE true (eI .i64) y9)),(35,(.agg [(.clo 102 [] [])]))],[.gone,.gone,.cells [zas,zas,zas]]⟩) (zbE.m0 [.d,.d,.k,.d,.f] rfl (msq (ms rfl ⟨qci,qci,qci,qci,qci⟩ (mf rfl (zgY (xs:=y7) (ys:=y9) (t:=true) (zir g10) rfl rfl rfl (fun _=>rfl)) (ms rfl ⟨⟨qci,qci⟩,qci⟩ trivial)))) ⟨rfl,⟨rfl,⟨MB.cs ⟨qci,qci,qci,qci⟩,qci⟩⟩⟩) (zab ?_);obtain⟨r11,g12,h⟩:=bind_some h;try simp only[rnA]
  refine EvL.fnS (zdL g12) rfl rfl (.cons (Mzs.agg (.cons (zag _ _ (fun h=>by cases h<;>contradiction)) (.cons (zag _ _ (fun h=>by cases h<;>contradiction)) (.cons (zag _ _ (fun h=>by cases h<;>contradiction)) (.cons (zag _ _ (fun h=>by cases h<;>contradiction)) .nil))))) (.cons (zag _ _ (fun h=>by cases h<;>contradiction)) (.cons (Mzs.agg (.cons zgb .nil)) .nil))) ⟨⟨(zac _ _),(zac _ _),(zac _ _),(zac _ _),qci⟩,(zac _ _),⟨⟨qci,qci⟩,qci⟩,qci⟩ ⟨⟨(zac _ _),(zac _ _),(zac _ _),qci⟩,qci,qci⟩ ?_;try simp only[rnA,Nat.reduceEqDiff,Nat.reduceLT,Nat.reduceAdd,Nat.reduceLeDiff]
  replace h:=qab h; subst h;exact zfg.ret rfl (Snp.zdq (.cons (.za5 (.cons (zaa _ _ (fun h=>nomatch h)) (.cons (zaa _ _ (fun h=>nomatch h)) (.cons (zaa _ _ (fun h=>nomatch h)) .nil)))) (.cons (.lit _) .nil)))
 rw[c6,cond_true]at h;try simp only[rnA,Nat.reduceEqDiff,Nat.reduceLT,Nat.reduceAdd,Nat.reduceLeDiff,reduceCtorEq]
 replace h:=qab h; subst h;exact zfg.ret rfl (Snp.zdq (.cons (.za5 (.cons (zai (eI .i64)) (.cons (zai (eI .i64)) (.cons (zai (eI .i64)) .nil)))) (.cons (.lit _) .nil)))
def zdh(p0:S_api_Factor)(p1:Int):Option (S_api_Factor×Int):=
(zcM p0 p1).bind fun r1=>
some (r1.1,r1.2)
theorem zgv{p0:S_api_Factor}{p1:Int}{r:(S_api_Factor×Int)}(h:zdh p0 p1=some r):Lx.FnA mC 33 [(.agg [(fzE false (eI .i64) p0.vars),(fzE false (eI .i64) p0.zad),(fzE false (eI .i64) p0.w)]),(dI p1)] (.tup [(.agg [(fzE false (eI .i64) r.1.vars),(fzE false (eI .i64) r.1.zad),(fzE false (eI .i64) r.1.w)]),(dI r.2)]):=by
 refine zsp (by conv=>lhs; cbv) ?_;unfold zdh at h;refine zab ?_;obtain⟨r1,g2,h⟩:=bind_some h;try simp only[rnA,Nat.reduceEqDiff,reduceIte,Nat.reduceLT,Nat.reduceAdd,Nat.reduceLeDiff,Nat.reduceMul,Nat.reduceSub,Int.reduceLE,Int.reduceLT,Int.reduceBEq,Nat.reduceBEq,reduceCtorEq,zae,zcD]
 refine EvL.fnS (zfl g2) rfl rfl (.cons (Mzs.agg (.cons (zag _ _ (fun h=>by cases h<;>contradiction)) (.cons (zag _ _ (fun h=>by cases h<;>contradiction)) (.cons (zag _ _ (fun h=>by cases h<;>contradiction)) .nil)))) (.cons (.lit _) (.cons (Mzs.agg (.cons zgb .nil)) .nil))) ⟨⟨(zac _ _),(zac _ _),(zac _ _),qci⟩,qci,⟨⟨qci,qci⟩,qci⟩,qci⟩ ⟨⟨(zac _ _),(zac _ _),(zac _ _),qci⟩,qci,qci⟩ ?_;try simp only[rnA,Nat.reduceEqDiff,reduceIte,Nat.reduceLT,Nat.reduceAdd,Nat.reduceLeDiff,Nat.reduceMul,Nat.reduceSub,Int.reduceLE,Int.reduceLT,Int.reduceBEq,Nat.reduceBEq,reduceCtorEq,zae]
 replace h:=qab h; subst h;exact zfg.ret rfl (Snp.zdq (.cons (.za5 (.cons (zaa _ _ (fun h=>nomatch h)) (.cons (zaa _ _ (fun h=>nomatch h)) (.cons (zaa _ _ (fun h=>nomatch h)) .nil)))) (.cons (.lit _) .nil)))
def zcz(r1:(S_factor_table×Int))(r4:Int)(p2:Int)(q21:Int):List (Int×Int×(List Int))→(List Int)→Option (List Int)
 | [],l5=>some l5
 | y31 :: ys,l5=>(
(zbl r1.1.steps r4).bind fun x32=>
(zbl r1.1.factor.w (w64 (y31.2.1+(w64 (p2 * x32))))).bind fun x34=>
(zbl l5 y31.1).bind fun x36=>
(zgg l5 y31.1 x34).bind fun y38=>
zcz r1 r4 p2 q21 ys y38)
def zdu(p0:S_api_Factor)(p1:Int)(p2:Int):Option (S_api_Factor×Int):=
(zav p0).bind fun r1=>
bif (r1.2 == 0)then(
(zaj r1.1 p1).bind fun r4=>
bif (decide (r4<0))then(
some ((S_api_Factor.mk [] [] []),4))
else(
((bif (decide (p2<0))then(
some true)
else(
(zbl r1.1.factor.zad r4).bind fun x8=>
some (decide (x8≤p2))):Option Bool)).bind fun v42=>
bif v42 then(
some ((S_api_Factor.mk [] [] []),2))
else(
(zc7 8 r1.1.factor.vars).bind fun y11=>
(zpA y11 r4 (w64 (r4+1))).bind fun y13=>
(zc7 8 r1.1.factor.zad).bind fun y15=>
(zpA y15 r4 (w64 (r4+1))).bind fun y17=>
(zbl r1.1.factor.zad r4).bind fun x19=>
(zpM .i64 (r1.1.factor.w.length:Int) x19).bind fun q21=>
(zdY 8 q21 0).bind fun y23=>
(zaA r1.1 y13).bind fun r25=>
(zaW y17 r25).bind fun r27=>
(zo3 r27.1 r27.2).bind fun u29=>
((zcz r1 r4 p2 q21 u29 y23:Option (List Int))).bind fun l5=>
some ((S_api_Factor.mk y13 y17 l5),0))))
else(
some ((S_api_Factor.mk [] [] []),r1.2))
def zgj:C:=
 .seq (rg [oW 3 0,
 oW 5 2,
 ⟨some 6,.alloc [(.slice none 0 0),(.slice none 0 0),(.slice none 0 0)],none⟩,
 oK 7 0])
 (.seq (rg [oN 17 3 3,
 oU 18 89 17,
 oM 16 18,
 oX 19 16 0,
 oX 20 16 1,
 ⟨some 8,.alloc [(.slice none 0 0),(.slice none 0 0),(.slice none 0 0),(.slice none 0 0)],none⟩,
 oS 4 8 19,
 oM 9 20])
 (.seq (.seq (rg [oM 21 9,
 oD 22 .neq 21 0])
 (.cond (.s 22) (.seq (rg [⟨some 23,.build [(.slice none 0 0),(.slice none 0 0),(.slice none 0 0)] [],none⟩,
 oM 24 9,
 oS 3 6 23,
 oM 7 24])
 (.ret))
 (.skip)))
 (.seq (rg [oN 25 4 8,
 oM 26 1,
 oV 27 96 25 26,
 ⟨some 10,.alloc [(.int .i64 0)],none⟩,
 oS 1 10 27])
 (.seq (.seq (rg [oL 28 10,
 oD 29 .lss 28 0])
 (.cond (.s 29) (.seq (rg [⟨some 30,.build [(.slice none 0 0),(.slice none 0 0),(.slice none 0 0)] [],none⟩,
 oS 3 6 30,
 oK 7 4])
 (.ret))
 (.skip)))
 (.seq (.seq (.scope (.reg true false [oL 31 5,
 oD 32 .lss 31 0,
 oM 33 32,
 oLg 34 5 33 false,
 oFg 35 0 8 33 false,
 oFg 36 1 35 33 false,
 oLg 37 36 33 false,
 oLg 38 10 33 false,
 ⟨some 39,.idxS 1 (.s 37) (.s 38),some (33,false)⟩,
 oLg 40 39 33 false,
 ⟨some 41,.bin .geq (.s 34) (.s 40),some (33,false)⟩,
 oP 42 33 41]))
 (.cond (.s 42) (.seq (rg [⟨some 43,.build [(.slice none 0 0),(.slice none 0 0),(.slice none 0 0)] [],none⟩,
 oS 3 6 43,
 oK 7 2])
 (.ret))
 (.skip)))
 (.seq (.reg true false [oF 44 0 8,
 oF 45 0 44,
 oL 46 45,
 oL 48 10,
 oL 49 10,
 oD 50 .add 49 1,
 oU 47 49 46,
 ⟨some 51,.call 103 [(.s 47),(.s 48),(.s 50)],none⟩,
 oM 11 51])
 (.seq (.reg true false [oF 52 0 8,
 oF 53 1 52,
 oL 54 53,
 oL 56 10,
 oL 57 10,
 oD 58 .add 57 1,
 oU 55 49 54,
 ⟨some 59,.call 103 [(.s 55),(.s 56),(.s 58)],none⟩,
 oM 12 59])
 (.seq (.reg true false [oF 60 0 8,
 oF 61 2 60,
 oL 62 61,
 oE 63 62,
 oF 64 0 8,
 oF 65 1 64,
 oL 66 65,
 oL 67 10,
 oI 68 1 66 67,
 oL 69 68,
 oB 70 .quo 63 69,
 ⟨some 71,.mk 1 8 [(.int .i64 0)] (.s 70) (.s 70),none⟩,
 ⟨some 13,.alloc [(.slice none 0 0)],none⟩,
 oS 1 13 71])
 (.seq (.seq (rg [oM 72 12,
 oN 73 4 8,
 oM 74 11,
 oV 75 94 73 74,
 oV 76 93 72 75])
 (.block 0 (.zdI (.s 76) [77,78] (.seq (rg [oM 14 77])
 (rg [oM 15 78]))
 (.block 1 (.reg true false [oL 79 13,
 oM 80 14,
 oF 81 0 8,
 oF 82 2 81,
 oL 83 82,
 oM 84 15,
 oL 85 5,
 oF 86 3 8,
 oL 87 86,
 oL 88 10,
 oI 89 1 87 88,
 oL 90 89,
 oB 91 .mul 85 90,
 oB 92 .add 84 91,
 oI 93 1 83 92,
 oL 94 93,
 oI 95 1 79 80,
 oS 1 95 94])))))
 (.seq (rg [oM 96 11,
 oM 97 12,
 oL 98 13,
 ⟨some 99,.build [(.slice none 0 0),(.slice none 0 0),(.slice none 0 0)] [(0,1,(.s 96)),(1,1,(.s 97)),(2,1,(.s 98))],none⟩,
 oS 3 6 99,
 oK 7 0])
 (.ret)))))))))))
theorem zhy:zgz mC 34=some (100,zgj,[.cell 6 (some 3),.tmp 7],false):=za6 (by kernel_rfl)
theorem zfQ{p0:S_api_Factor}{p1:Int}{p2:Int}{r:(S_api_Factor×Int)}(h:zdu p0 p1 p2=some r):Lx.Fn mC 34 [(.agg [(fzE false (eI .i64) p0.vars),(fzE false (eI .i64) p0.zad),(fzE false (eI .i64) p0.w)]),(dI p1),(dI p2)] (.tup [(.agg [(fzE true (eI .i64) r.1.vars),(fzE true (eI .i64) r.1.zad),(fzE true (eI .i64) r.1.w)]),(dI r.2)]):=by
 refine Fn.of zhy (zaX rfl) (qad rfl) ?_;unfold zdu at h;simp only[zgj,zkA];refine zab ?_;obtain⟨r1,g2,h⟩:=bind_some h;try simp only[rnA,Nat.reduceEqDiff,Nat.reduceLT,Nat.reduceAdd,Nat.reduceLeDiff,reduceCtorEq]
 refine EvL.fnS (zaS g2) rfl rfl (.cons (Mzs.agg (.cons (zag _ _ (fun h=>by cases h<;>contradiction)) (.cons (zag _ _ (fun h=>by cases h<;>contradiction)) (.cons (zag _ _ (fun h=>by cases h<;>contradiction)) .nil)))) .nil) ⟨⟨(zac _ _),(zac _ _),(zac _ _),qci⟩,qci⟩ ⟨⟨(zac _ _),(zac _ _),(zac _ _),(zac _ _),qci⟩,qci,qci⟩ ?_;try simp only[rnA,Nat.reduceEqDiff,Nat.reduceLT,Nat.reduceAdd,Nat.reduceLeDiff,reduceCtorEq]
 cases c3:(r1.2 == 0)
 ·rw[c3,cond_false]at h;try simp only[rnA,Nat.reduceEqDiff,Nat.reduceLT,Nat.reduceAdd,Nat.reduceLeDiff,reduceCtorEq]
  replace h:=qab h; subst h;exact zcC.ret rfl (Snp.zdq (.cons (.za5 (.cons (zai (eI .i64)) (.cons (zai (eI .i64)) (.cons (zai (eI .i64)) .nil)))) (.cons (.lit _) .nil)))
 rw[c3,cond_true]at h;obtain⟨r4,g5,h⟩:=bind_some h;try simp only[rnA,Nat.reduceEqDiff,Nat.reduceLT,Nat.reduceAdd,Nat.reduceLeDiff,reduceCtorEq]
 refine EvL.fn (zam g5) rfl rfl (.cons (.za5 (.cons (zaa _ _ (fun h=>nomatch h)) (.cons (zaa _ _ (fun h=>nomatch h)) (.cons (zaa _ _ (fun h=>nomatch h)) (.cons (zaa _ _ (fun h=>nomatch h)) .nil))))) (.cons (.lit _) .nil)) ?_;try simp only[rnA,Nat.reduceEqDiff,Nat.reduceLT,Nat.reduceAdd,Nat.reduceLeDiff,reduceCtorEq]
 cases c6:(decide (r4<0))
 ·rw[c6,cond_false]at h;try simp only[rnA]
  obtain⟨o1,j1,h⟩:=bind_some h;obtain⟨T1,hT1⟩:=mkT fun a:Bool=>⟨100,[(5,(.ptr 1 0)),(6,(.ptr 2 0)),(8,(.ptr 3 0)),(10,(.ptr 4 0)),(42,(dB a))],[.gone,.cells [(dI p2)],.cells [zas,zas,zas],.cells [(fzE false (eI .i64) r1.1.factor.vars),(fzE false (eI .i64) r1.1.factor.zad),(fzE false (eI .i64) r1.1.factor.w),(fzE false (eI .i64) r1.1.steps)],.cells [(dI r4)]]⟩
  refine EvL.jn T1 (fun a=>a=o1) ?_ ?_
  ·refine zab ?_;try simp only[rnA,Nat.reduceEqDiff,Nat.reduceLT,reduceCtorEq]
   cases c7:(decide (p2<0))
   ·rw[c7,cond_false]at j1;obtain⟨x8,g9,j1⟩:=bind_some j1;try simp only[rnA,Nat.reduceEqDiff,Nat.reduceLT,reduceCtorEq,zaq (n:=1) (e:=(eI .i64)) rfl g9]
    replace j1:=qab j1; subst j1;exact lfj hT1 rfl (wm0 [.d,.k,.k,.k,.k] ⟨rfl,⟨MB.cs ⟨qci,qci⟩,⟨MB.cs ⟨qci,qci,qci,qci⟩,⟨MB.cs ⟨qci,qci,qci,qci,qci⟩,⟨MB.cs ⟨qci,qci⟩,qci⟩⟩⟩⟩⟩)
   rw[c7,cond_true]at j1;try simp only[rnA,Nat.reduceEqDiff,Nat.reduceLT,reduceCtorEq]
   replace j1:=qab j1; subst j1;exact lfj hT1 rfl (wm0 [.d,.k,.k,.k,.k] ⟨rfl,⟨MB.cs ⟨qci,qci⟩,⟨MB.cs ⟨qci,qci,qci,qci⟩,⟨MB.cs ⟨qci,qci,qci,qci,qci⟩,⟨MB.cs ⟨qci,qci⟩,qci⟩⟩⟩⟩⟩)
  rintro v42 rfl;rw[congrFun hT1 v42];refine zab ?_;try simp only[rnA,Nat.reduceEqDiff]
  cases c10:v42
  ·rw[c10,cond_false]at h;obtain⟨y11,g12,h⟩:=bind_some h;try simp only[rnA,Nat.reduceEqDiff,Nat.reduceLT]
   refine EvL.clone (t:=false) (zs:=r1.1.factor.vars) g12 rfl rfl ?_;obtain⟨y13,g14,h⟩:=bind_some h;try simp only[rnA,Nat.reduceLT,Nat.reduceAdd]
   refine EvL.delete (zs:=y11) (t:=true) g14 rfl rfl rfl rfl rfl rfl ?_;refine EvL.zeU (S':=⟨100,[(5,(.ptr 1 0)),(6,(.ptr 2 0)),(8,(.ptr 3 0)),(10,(.ptr 4 0)),(51,(fzE true (eI .i64) y13))],[.gone,.cells [(dI p2)],.cells [zas,zas,zas],.cells [(fzE false (eI .i64) r1.1.factor.vars),(fzE false (eI .i64) r1.1.factor.zad),(fzE false (eI .i64) r1.1.factor.w),(fzE false (eI .i64) r1.1.steps)],.cells [(dI r4)]]⟩) (zbE.m0 [.d,.k,.k,.k,.k,.f] rfl (msq (msq (msq (msq (mf rfl (zgY (xs:=y11) (ys:=y13) (t:=true) (zir g14) rfl rfl rfl (fun _=>rfl)) trivial))))) ⟨rfl,⟨MB.cs ⟨qci,qci⟩,⟨MB.cs ⟨qci,qci,qci,qci⟩,⟨MB.cs ⟨qci,qci,qci,qci,qci⟩,⟨MB.cs ⟨qci,qci⟩,qci⟩⟩⟩⟩⟩) (zab ?_);obtain⟨y15,g16,h⟩:=bind_some h;try simp only[rnA,Nat.reduceEqDiff,Nat.reduceLT]
   refine EvL.clone (t:=false) (zs:=r1.1.factor.zad) g16 rfl rfl ?_;obtain⟨y17,g18,h⟩:=bind_some h;try simp only[rnA,Nat.reduceLT,Nat.reduceAdd]
   refine EvL.delete (zs:=y15) (t:=true) g18 rfl rfl rfl rfl rfl rfl ?_;refine EvL.zeU (S':=⟨100,[(5,(.ptr 1 0)),(6,(.ptr 2 0)),(8,(.ptr 3 0)),(10,(.ptr 4 0)),(11,(fzE true (eI .i64) y13)),(59,(fzE true (eI .i64) y17))],[.gone,.cells [(dI p2)],.cells [zas,zas,zas],.cells [(fzE false (eI .i64) r1.1.factor.vars),(fzE false (eI .i64) r1.1.factor.zad),(fzE false (eI .i64) r1.1.factor.w),(fzE false (eI .i64) r1.1.steps)],.cells [(dI r4)]]⟩) (zbE.m0 [.d,.k,.k,.k,.k,.f] rfl (msq (msq (msq (msq (msq (mf rfl (zgY (xs:=y15) (ys:=y17) (t:=true) (zir g18) rfl rfl rfl (fun _=>rfl)) trivial)))))) ⟨rfl,⟨MB.cs ⟨qci,qci⟩,⟨MB.cs ⟨qci,qci,qci,qci⟩,⟨MB.cs ⟨qci,qci,qci,qci,qci⟩,⟨MB.cs ⟨qci,qci⟩,qci⟩⟩⟩⟩⟩) (zab ?_);obtain⟨x19,g20,h⟩:=bind_some h;obtain⟨q21,g22,h⟩:=bind_some h;obtain⟨y23,g24,h⟩:=bind_some h;obtain⟨r25,g26,h⟩:=bind_some h;try simp only[rnA,Nat.reduceEqDiff,Nat.reduceLT,Nat.reduceAdd,Nat.reduceLeDiff,zaQ,zaq (n:=1) (e:=(eI .i64)) rfl g20,zkH g22,zof g22,(zat g24).1.1,(zat g24).1.2,qbv,(show List.replicate (Int.toNat q21) [(dI 0)]=y23.map ((eI .i64).c true)from zbD g24 ((eI .i64).c true))]
   refine EvL.fn (zbp g26) rfl rfl (.cons (.za5 (.cons (zaa _ _ (fun h=>nomatch h)) (.cons (zaa _ _ (fun h=>nomatch h)) (.cons (zaa _ _ (fun h=>nomatch h)) (.cons (zaa _ _ (fun h=>nomatch h)) .nil))))) (.cons (zaa _ _ (fun h=>nomatch h)) .nil)) ?_;obtain⟨r27,g28,h⟩:=bind_some h;try simp only[rnA,Nat.reduceLT]
   refine EvL.fnS (zbh g28) rfl rfl (.cons (zag _ _ (fun h=>by cases h<;>contradiction)) (.cons (zag _ _ (fun h=>by cases h<;>contradiction)) .nil)) ⟨(zac _ _),(zac _ _),qci⟩ ⟨qci,⟨⟨rfl,zac _ _,qci⟩,⟨rfl,zac _ _,qci⟩,qci⟩⟩ ?_;try simp only[rnA,Nat.reduceLT]
   obtain⟨u29,g30,h⟩:=bind_some h;obtain⟨o2,j2,h⟩:=bind_some h;obtain⟨T2,hT2⟩:∃ T:(List Int)→List LB,T=(fun a=>[.gone,.cells [(dI p2)],.cells [zas,zas,zas],.cells [(fzE false (eI .i64) r1.1.factor.vars),(fzE false (eI .i64) r1.1.factor.zad),(fzE false (eI .i64) r1.1.factor.w),(fzE false (eI .i64) r1.1.steps)],.cells [(dI r4)],.els 1 (a.map ((eI .i64).c true)),.cells [(.sl 5 0 1 (Int.toNat q21) (some (Int.toNat q21)) (Int.toNat q21))]]):=⟨_,rfl⟩;refine EvL.zeU (S':=⟨100,[(5,(.ptr 1 0)),(6,(.ptr 2 0)),(8,(.ptr 3 0)),(10,(.ptr 4 0)),(11,(fzE true (eI .i64) y13)),(12,(fzE true (eI .i64) y17)),(13,(.ptr 6 0)),(76,(.clo 135 [] [(.fptr false ((eL (eI .i64)).c false r27.1)),(.fptr false ((eL (eI .i64)).c false r27.2))]))],T2 y23⟩) (by rw[hT2]; exact wm0 [.k,.k,.k,.k,.k,.k,.k] ⟨MB.same trivial,⟨MB.cs ⟨qci,qci⟩,⟨MB.cs ⟨qci,qci,qci,qci⟩,⟨MB.cs ⟨qci,qci,qci,qci,qci⟩,⟨MB.cs ⟨qci,qci⟩,⟨MB.es (eI .i64) true y23,⟨MB.cs ⟨rfl,qci⟩,qci⟩⟩⟩⟩⟩⟩⟩) ?_;refine EvL.zjj (n0:=7) (zbc g30) rfl (bm:=.block 1 (.reg true false [⟨some 79,.load none (.s 13),none⟩,⟨some 80,.mov (.s 14),none⟩,⟨some 81,.fld 0 (.s 8),none⟩,⟨some 82,.fld 2 (.s 81),none⟩,⟨some 83,.load none (.s 82),none⟩,⟨some 84,.mov (.s 15),none⟩,⟨some 85,.load none (.s 5),none⟩,⟨some 86,.fld 3 (.s 8),none⟩,⟨some 87,.load none (.s 86),none⟩,⟨some 88,.load none (.s 10),none⟩,⟨some 89,.idxS 1 (.s 87) (.s 88),none⟩,⟨some 90,.load none (.s 89),none⟩,⟨some 91,.bin .mul (.s 85) (.s 90),none⟩,⟨some 92,.bin .add (.s 84) (.s 91),none⟩,⟨some 93,.idxS 1 (.s 83) (.s 92),none⟩,⟨some 94,.load none (.s 93),none⟩,⟨some 95,.idxS 1 (.s 79) (.s 80),none⟩,⟨none,.store 1 (.s 95) (.s 94),none⟩])) rfl T2 (fun i a=>zcz r1 r4 p2 q21 (u29.drop i) a=some o2∧a.length=(Int.toNat q21)) (fun x L1=>match x with | .normal=>∃ a,o2=a∧a.length=(Int.toNat q21)∧L1=T2 a | .ret=>L1.length=7∧zef (7+1) L1∧(zcC [.cell 6 (some 3),.tmp 7] ((.tup [(.agg [(fzE true (eI .i64) r.1.vars),(fzE true (eI .i64) r.1.zad),(fzE true (eI .i64) r.1.w)]),(dI r.2)]))) .ret ⟨100,[(5,(.ptr 1 0)),(6,(.ptr 2 0)),(8,(.ptr 3 0)),(10,(.ptr 4 0)),(11,(fzE true (eI .i64) y13)),(12,(fzE true (eI .i64) y17)),(13,(.ptr 6 0)),(76,(.clo 135 [] [(.fptr false ((eL (eI .i64)).c false r27.1)),(.fptr false ((eL (eI .i64)).c false r27.2))]))],L1 ++ [.lost]⟩| _=>False) y23 ?_ (qaS _) ?_ ?_ ?_ (fun d L1 hx=>hx.elim) ?_ ?_ ?_ ?_ ?_ ?_
   ·intro a; rw[hT2]; rfl
   ·exact⟨(qad rfl),(qad rfl),(qad rfl),(qad rfl),qci,qci,(qad rfl),⟨qci,⟨qci,qci,qci⟩⟩,qci⟩
   ·intro a; rw[hT2]; exact⟨qci,⟨qci,qci⟩,⟨qci,qci,qci,qci⟩,⟨qci,qci,qci,qci,qci⟩,⟨qci,qci⟩,(zcb (eI .i64) _ _ _),⟨(qad rfl),qci⟩,qci⟩
   ·intro x L1 hx;cases x with
    | normal=>obtain⟨a,_,_,rfl⟩:=hx; exact⟨by rw[hT2]; rfl,by rw[hT2]; exact⟨qci,⟨qci,qci⟩,⟨qci,qci,qci,qci⟩,⟨qci,qci,qci,qci,qci⟩,⟨qci,qci⟩,(zcb (eI .i64) _ _ _),⟨(qad rfl),qci⟩,qci⟩⟩
    | ret=>exact⟨hx.1,hx.2.1⟩
    | exit id=>exact hx.elim
    | panic d=>exact hx.elim
   ·exact⟨j2,zbo g24⟩
   ·rintro i l5 y31 args G lpF hy ⟨hi2,el5⟩ ⟨rfl,rfl⟩ hkin;rw[zeJ hy]at hi2;simp only[zcz]at hi2;refine⟨_,_,rfl,rfl,?_⟩;rw[congrFun hT2 l5];refine zab ?_;obtain⟨x32,g33,hi2⟩:=bind_some hi2;obtain⟨x34,g35,hi2⟩:=bind_some hi2;obtain⟨x36,g37,hi2⟩:=bind_some hi2;obtain⟨y38,g39,hi2⟩:=bind_some hi2;try simp only[rnA,Nat.reduceEqDiff,Nat.reduceLT,Nat.reduceAdd,Nat.reduceLeDiff,zaq (n:=1) (e:=(eI .i64)) rfl g33,zaq (n:=1) (e:=(eI .i64)) rfl g35,el5,zbi g37,(show y31.1<(((Int.toNat q21):Nat):Int)from el5 ▸ zbk g37),zaH g37 ((eI .i64).c true),(show(l5.map ((eI .i64).c true)).set y31.1.toNat [(dI x34)]=y38.map ((eI .i64).c true)from zbv g39 ((eI .i64).c true))]
    exact⟨T2 y38,by rw[hT2]; rfl,by rw[hT2]; exact zbE.mK [.k,.k,.k,.k,.k,.k,.k,.k,.k] rfl rfl qci ⟨MB.same trivial,⟨MB.cs ⟨qci,qci⟩,⟨MB.cs ⟨qci,qci,qci,qci⟩,⟨MB.cs ⟨qci,qci,qci,qci,qci⟩,⟨MB.cs ⟨qci,qci⟩,⟨MB.es (eI .i64) true y38,⟨MB.cs ⟨rfl,qci⟩,⟨.same (hkin _ (by decide)),⟨MB.same (zcB _ _ _ _),qci⟩⟩⟩⟩⟩⟩⟩⟩⟩,y38,⟨hi2,(zbb g39).trans el5⟩,rfl⟩
   ·rintro l5 ⟨hi2,el5⟩;rw[qaW]at hi2;simp only[zcz]at hi2;exact⟨l5,(qab hi2).symm,el5,rfl⟩
   ·rintro _ ⟨l5,oeq,el5,rfl⟩;have oeq2:=oeq.symm;subst oeq2;rw[congrFun hT2 l5];refine zab ?_;try simp only[rnA,Nat.reduceEqDiff,Nat.reduceLT,Nat.reduceAdd,Nat.reduceLeDiff]
    replace h:=qab h; subst h;exact zcC.ret rfl (Snp.zdq (.cons (.za5 (.cons (zaa _ _ (fun _=>rfl)) (.cons (zaa _ _ (fun _=>rfl)) (.cons (zb7 (e:=(eI .i64)) (t:=true) rfl (.inl rfl) (el5).symm (el5).symm (fun k h=>by cases h; exact qaj _) (fun _=>rfl)) .nil)))) (.cons (.lit _) .nil)))
   ·intro id L1 hx; exact hx.elim
   intro L1 hx; exact hx.2.2
  rw[c10,cond_true]at h;try simp only[rnA,Nat.reduceEqDiff,Nat.reduceLT,Nat.reduceAdd,Nat.reduceLeDiff]
  replace h:=qab h; subst h;exact zcC.ret rfl (Snp.zdq (.cons (.za5 (.cons (zai (eI .i64)) (.cons (zai (eI .i64)) (.cons (zai (eI .i64)) .nil)))) (.cons (.lit _) .nil)))
 rw[c6,cond_true]at h;try simp only[rnA,Nat.reduceEqDiff,Nat.reduceLT,Nat.reduceAdd,Nat.reduceLeDiff,reduceCtorEq]
 replace h:=qab h; subst h;exact zcC.ret rfl (Snp.zdq (.cons (.za5 (.cons (zai (eI .i64)) (.cons (zai (eI .i64)) (.cons (zai (eI .i64)) .nil)))) (.cons (.lit _) .nil)))
def zdG(p0:S_api_Factor):Option (Int×Int):=
(zav p0).bind fun r1=>
bif (r1.2 == 0)then(
(zaP r1.1 []).bind fun r4=>
bif (r4.2 == 0)then(
(zbl r4.1.w 0).bind fun x7=>
some (x7,0))
else(
some (0,r4.2)))
else(
some (0,r1.2))
theorem zg4{p0:S_api_Factor}{r:(Int×Int)}(h:zdG p0=some r):Lx.Fn mC 40 [(.agg [(fzE false (eI .i64) p0.vars),(fzE false (eI .i64) p0.zad),(fzE false (eI .i64) p0.w)])] (.tup [(dI r.1),(dI r.2)]):=by
 refine fnO (by conv=>lhs; cbv) ?_;unfold zdG at h;refine zab ?_;obtain⟨r1,g2,h⟩:=bind_some h;try simp only[rnA,Nat.reduceEqDiff,reduceIte,Nat.reduceLT,Nat.reduceAdd,Nat.reduceLeDiff,Nat.reduceMul,Nat.reduceSub,Int.reduceLE,Int.reduceLT,Int.reduceBEq,Nat.reduceBEq,reduceCtorEq,zae,zcD]
 refine EvL.fnS (zaS g2) rfl rfl (.cons (Mzs.agg (.cons (zag _ _ (fun h=>by cases h<;>contradiction)) (.cons (zag _ _ (fun h=>by cases h<;>contradiction)) (.cons (zag _ _ (fun h=>by cases h<;>contradiction)) .nil)))) .nil) ⟨⟨(zac _ _),(zac _ _),(zac _ _),qci⟩,qci⟩ ⟨⟨(zac _ _),(zac _ _),(zac _ _),(zac _ _),qci⟩,qci,qci⟩ ?_;try simp only[rnA,Nat.reduceEqDiff,reduceIte,Nat.reduceLT,Nat.reduceAdd,Nat.reduceLeDiff,Nat.reduceMul,Nat.reduceSub,Int.reduceLE,Int.reduceLT,Int.reduceBEq,Nat.reduceBEq,reduceCtorEq,zae]
 cases c3:(r1.2 == 0)
 ·rw[c3,cond_false]at h;try simp only[rnA,Nat.reduceEqDiff,reduceIte,Nat.reduceLT,Nat.reduceAdd,Nat.reduceLeDiff,Nat.reduceMul,Nat.reduceSub,Int.reduceLE,Int.reduceLT,Int.reduceBEq,Nat.reduceBEq,reduceCtorEq,zae,c3]
  replace h:=qab h; subst h;exact zcC.ret rfl (Snp.zdq (.cons (.lit _) (.cons (.lit _) .nil)))
 rw[c3,cond_true]at h;obtain⟨r4,g5,h⟩:=bind_some h;try simp only[rnA,Nat.reduceEqDiff,reduceIte,Nat.reduceLT,Nat.reduceAdd,Nat.reduceLeDiff,Nat.reduceMul,Nat.reduceSub,Int.reduceLE,Int.reduceLT,Int.reduceBEq,Nat.reduceBEq,reduceCtorEq,zae,c3]
 refine EvL.fnS (zbr g5) rfl rfl (.cons (Mzs.agg (.cons (zag _ _ (fun h=>by cases h<;>contradiction)) (.cons (zag _ _ (fun h=>by cases h<;>contradiction)) (.cons (zag _ _ (fun h=>by cases h<;>contradiction)) (.cons (zag _ _ (fun h=>by cases h<;>contradiction)) .nil))))) (.cons (zhS (eI .i64)) (.cons (Mzs.agg (.cons zgb .nil)) .nil))) ⟨⟨(zac _ _),(zac _ _),(zac _ _),(zac _ _),qci⟩,(zac _ _),⟨⟨qci,qci⟩,qci⟩,qci⟩ ⟨⟨(zac _ _),(zac _ _),(zac _ _),qci⟩,qci,qci⟩ ?_;try simp only[rnA,Nat.reduceEqDiff,reduceIte,Nat.reduceLT,Nat.reduceAdd,Nat.reduceLeDiff,Nat.reduceMul,Nat.reduceSub,Int.reduceLE,Int.reduceLT,Int.reduceBEq,Nat.reduceBEq,reduceCtorEq,zae,c3]
 cases c6:(r4.2 == 0)
 ·rw[c6,cond_false]at h;try simp only[rnA,Nat.reduceEqDiff,reduceIte,Nat.reduceLT,Nat.reduceAdd,Nat.reduceLeDiff,Nat.reduceMul,Nat.reduceSub,Int.reduceLE,Int.reduceLT,Int.reduceBEq,Nat.reduceBEq,reduceCtorEq,zae,c3,c6]
  replace h:=qab h; subst h;exact zcC.ret rfl (Snp.zdq (.cons (.lit _) (.cons (.lit _) .nil)))
 rw[c6,cond_true]at h;obtain⟨x7,g8,h⟩:=bind_some h;try simp only[rnA,Nat.reduceEqDiff,reduceIte,Nat.reduceLT,Nat.reduceAdd,Nat.reduceLeDiff,Nat.reduceMul,Nat.reduceSub,Int.reduceLE,Int.reduceLT,Int.reduceBEq,Nat.reduceBEq,reduceCtorEq,zae,zaq (n:=1) (e:=(eI .i64)) rfl g8,c3,c6]
 replace h:=qab h; subst h;exact zcC.ret rfl (Snp.zdq (.cons (.lit _) (.cons (.lit _) .nil)))
def zc1(p1:(List Int)):Nat→Int→Option (Out Unit (S_api_Factor×Int))
 | 0,_=>none
 | n+1,v8=>(
bif (decide (v8<(p1.length:Int)))then(
(zbl p1 v8).bind fun x5=>
(zbl p1 (w64 (v8 - 1))).bind fun x7=>
bif (decide (x5≤x7))then(
some (.ret ((S_api_Factor.mk [] [] []),2)))
else(
zc1 p1 n (w64 (v8+1))))
else(
some (.go ())))
def zcX(p1:(List Int))(r1:(S_factor_table×Int)):Nat→Int→Option (Out Unit (S_api_Factor×Int))
 | 0,_=>none
 | n+1,v39=>(
bif (decide (v39<(p1.length:Int)))then(
(zbl p1 v39).bind fun x11=>
(zaj r1.1 x11).bind fun r13=>
bif (decide (r13<0))then(
some (.ret ((S_api_Factor.mk [] [] []),4)))
else(
zcX p1 r1 n (w64 (v39+1))))
else(
some (.go ())))
def zcy(p0:S_api_Factor)(p1:(List Int)):Option (S_api_Factor×Int):=
(zav p0).bind fun r1=>
bif (r1.2 == 0)then(
((zc1 p1 ((p1.length:Int) - 1+2:Int).toNat 1:Option (Out Unit (S_api_Factor×Int)))).bind fun o=>match o with
| .go _=>(
((zcX p1 r1 ((p1.length:Int) - 0+2:Int).toNat 0:Option (Out Unit (S_api_Factor×Int)))).bind fun o=>match o with
| .go _=>(
(zc7 8 p1).bind fun y16=>
(zaP r1.1 y16).bind fun r18=>
some (r18.1,r18.2))
| .ret r=>some r)
| .ret r=>some r)
else(
some ((S_api_Factor.mk [] [] []),r1.2))
theorem zdF{p0:S_api_Factor}{p1:(List Int)}{r:(S_api_Factor×Int)}(h:zcy p0 p1=some r):Lx.FnA mC 42 [(.agg [(fzE false (eI .i64) p0.vars),(fzE false (eI .i64) p0.zad),(fzE false (eI .i64) p0.w)]),(fzE false (eI .i64) p1)] (.tup [(.agg [(fzE false (eI .i64) r.1.vars),(fzE false (eI .i64) r.1.zad),(fzE false (eI .i64) r.1.w)]),(dI r.2)]):=by
 refine zsp (by conv=>lhs; cbv) ?_;unfold zcy at h;refine zab ?_;obtain⟨r1,g2,h⟩:=bind_some h;try simp only[rnA,Nat.reduceEqDiff,Nat.reduceLT,Nat.reduceAdd,Nat.reduceLeDiff,reduceCtorEq]
 refine EvL.fnS (zaS g2) rfl rfl (.cons (Mzs.agg (.cons (zag _ _ (fun h=>by cases h<;>contradiction)) (.cons (zag _ _ (fun h=>by cases h<;>contradiction)) (.cons (zag _ _ (fun h=>by cases h<;>contradiction)) .nil)))) .nil) ⟨⟨(zac _ _),(zac _ _),(zac _ _),qci⟩,qci⟩ ⟨⟨(zac _ _),(zac _ _),(zac _ _),(zac _ _),qci⟩,qci,qci⟩ ?_;try simp only[rnA,Nat.reduceEqDiff,Nat.reduceLT,Nat.reduceAdd,Nat.reduceLeDiff,reduceCtorEq]
 cases c3:(r1.2 == 0)
 ·rw[c3,cond_false]at h;try simp only[rnA,Nat.reduceEqDiff,Nat.reduceLT,Nat.reduceAdd,Nat.reduceLeDiff,reduceCtorEq]
  replace h:=qab h; subst h;exact zfg.ret rfl (Snp.zdq (.cons (.za5 (.cons (zai (eI .i64)) (.cons (zai (eI .i64)) (.cons (zai (eI .i64)) .nil)))) (.cons (.lit _) .nil)))
 rw[c3,cond_true]at h;try simp only[rnA,Nat.reduceLT]
 obtain⟨o1,j1,h⟩:=bind_some h;obtain⟨T1,hT1⟩:=mkT fun a:Unit=>⟨56,[(1,(fzE false (eI .i64) p1)),(4,(.ptr 1 0)),(6,(.ptr 2 0))],[.gone,.cells [zas,zas,zas],.cells [(fzE false (eI .i64) r1.1.factor.vars),(fzE false (eI .i64) r1.1.factor.zad),(fzE false (eI .i64) r1.1.factor.w),(fzE false (eI .i64) r1.1.steps)]]⟩
 refine EvL.jn T1 (fun a=>o1=.go a) ?_ ?_
 ·refine zab ?_;simp only[rnA];obtain⟨T2,hT2⟩:=mkT fun a:Int=>⟨56,[(1,(fzE false (eI .i64) p1)),(4,(.ptr 1 0)),(6,(.ptr 2 0)),(8,(dI a))],[.gone,.cells [zas,zas,zas],.cells [(fzE false (eI .i64) r1.1.factor.vars),(fzE false (eI .i64) r1.1.factor.zad),(fzE false (eI .i64) r1.1.factor.w),(fzE false (eI .i64) r1.1.steps)]]⟩
  refine EvL.rounds (α:=Int) T2 (fun n a=>zc1 p1 n a=some o1) ((p1.length:Int) - 1+2:Int).toNat 1 (by rw[hT2]; exact wm0 [.d,.k,.k] ⟨rfl,⟨MB.cs ⟨qci,qci,qci,qci⟩,⟨MB.cs ⟨qci,qci,qci,qci,qci⟩,qci⟩⟩⟩) j1 (fun _ h=>nomatch (show(none:Option (Out Unit (S_api_Factor×Int)))=some o1 from h)) ?_;rintro n v8 j1;simp only[zc1]at j1;rw[congrFun hT2 v8];refine zab ?_;try simp only[rnA,Nat.reduceEqDiff,Nat.reduceLT,zaQ]
  cases c4:(decide (v8<(p1.length:Int)))
  ·rw[c4,cond_false]at j1;try simp only[rnA]
   replace j1:=qab j1; subst j1;exact lfj hT1 rfl (wm0 [.d,.k,.k] ⟨rfl,⟨MB.cs ⟨qci,qci,qci,qci⟩,⟨MB.cs ⟨qci,qci,qci,qci,qci⟩,qci⟩⟩⟩)
  rw[c4,cond_true]at j1;obtain⟨x5,g6,j1⟩:=bind_some j1;obtain⟨x7,g8,j1⟩:=bind_some j1;try simp only[rnA,Nat.reduceEqDiff,Nat.reduceLT,zaq (n:=1) (e:=(eI .i64)) rfl g6,zaq (n:=1) (e:=(eI .i64)) rfl g8]
  cases c9:(decide (x5≤x7))
  ·rw[c9,cond_false]at j1;try simp only[rnA,Nat.reduceEqDiff,Nat.reduceLT]
   exact⟨(w64 (v8+1)),j1,by rw[hT2]; exact wm0 [.d,.k,.k] ⟨rfl,⟨MB.cs ⟨qci,qci,qci,qci⟩,⟨MB.cs ⟨qci,qci,qci,qci,qci⟩,qci⟩⟩⟩⟩
  rw[c9,cond_true]at j1;try simp only[rnA,Nat.reduceEqDiff,Nat.reduceLT,Nat.reduceAdd,Nat.reduceLeDiff]
  replace j1:=qab j1; subst j1;dsimp only at h;replace h:=qab h; subst h;exact zfg.ret rfl (Snp.zdq (.cons (.za5 (.cons (zai (eI .i64)) (.cons (zai (eI .i64)) (.cons (zai (eI .i64)) .nil)))) (.cons (.lit _) .nil)))
 rintro⟨⟩ rfl;dsimp only at h;rw[congrFun hT1 ()];refine zab ?_;try simp only[rnA,Nat.reduceEqDiff,Nat.reduceLT,zaQ]
 obtain⟨o3,j3,h⟩:=bind_some h;obtain⟨T3,hT3⟩:=mkT fun a:Unit=>⟨56,[(1,(fzE false (eI .i64) p1)),(4,(.ptr 1 0)),(6,(.ptr 2 0))],[.gone,.cells [zas,zas,zas],.cells [(fzE false (eI .i64) r1.1.factor.vars),(fzE false (eI .i64) r1.1.factor.zad),(fzE false (eI .i64) r1.1.factor.w),(fzE false (eI .i64) r1.1.steps)]]⟩
 refine EvL.jn T3 (fun a=>o3=.go a) ?_ ?_
 ·refine zab ?_;simp only[rnA];obtain⟨T4,hT4⟩:=mkT fun a:Int=>⟨56,[(1,(fzE false (eI .i64) p1)),(4,(.ptr 1 0)),(6,(.ptr 2 0)),(37,(fzE false (eI .i64) p1)),(38,(dI (p1.length:Int))),(39,(dI a))],[.gone,.cells [zas,zas,zas],.cells [(fzE false (eI .i64) r1.1.factor.vars),(fzE false (eI .i64) r1.1.factor.zad),(fzE false (eI .i64) r1.1.factor.w),(fzE false (eI .i64) r1.1.steps)]]⟩
  refine EvL.rounds (α:=Int) T4 (fun n a=>zcX p1 r1 n a=some o3) ((p1.length:Int) - 0+2:Int).toNat 0 (by rw[hT4]; exact wm0 [.d,.k,.k] ⟨rfl,⟨MB.cs ⟨qci,qci,qci,qci⟩,⟨MB.cs ⟨qci,qci,qci,qci,qci⟩,qci⟩⟩⟩) j3 (fun _ h=>nomatch (show(none:Option (Out Unit (S_api_Factor×Int)))=some o3 from h)) ?_;rintro n v39 j3;simp only[zcX]at j3;rw[congrFun hT4 v39];refine zab ?_;try simp only[rnA,Nat.reduceEqDiff,Nat.reduceLT]
  cases c10:(decide (v39<(p1.length:Int)))
  ·rw[c10,cond_false]at j3;try simp only[rnA]
   replace j3:=qab j3; subst j3;exact lfj hT3 rfl (wm0 [.d,.k,.k] ⟨rfl,⟨MB.cs ⟨qci,qci,qci,qci⟩,⟨MB.cs ⟨qci,qci,qci,qci,qci⟩,qci⟩⟩⟩)
  rw[c10,cond_true]at j3;obtain⟨x11,g12,j3⟩:=bind_some j3;obtain⟨r13,g14,j3⟩:=bind_some j3;try simp only[rnA,Nat.reduceEqDiff,Nat.reduceLT,Nat.reduceAdd,Nat.reduceLeDiff,zaq (n:=1) (e:=(eI .i64)) rfl g12]
  refine EvL.fn (zam g14) rfl rfl (.cons (.za5 (.cons (zaa _ _ (fun h=>nomatch h)) (.cons (zaa _ _ (fun h=>nomatch h)) (.cons (zaa _ _ (fun h=>nomatch h)) (.cons (zaa _ _ (fun h=>nomatch h)) .nil))))) (.cons (.lit _) .nil)) ?_;try simp only[rnA,Nat.reduceEqDiff,Nat.reduceLT]
  cases c15:(decide (r13<0))
  ·rw[c15,cond_false]at j3;try simp only[rnA,Nat.reduceEqDiff,Nat.reduceLT]
   exact⟨(w64 (v39+1)),j3,by rw[hT4]; exact wm0 [.d,.k,.k] ⟨rfl,⟨MB.cs ⟨qci,qci,qci,qci⟩,⟨MB.cs ⟨qci,qci,qci,qci,qci⟩,qci⟩⟩⟩⟩
  rw[c15,cond_true]at j3;try simp only[rnA,Nat.reduceEqDiff,Nat.reduceLT,Nat.reduceAdd,Nat.reduceLeDiff]
  replace j3:=qab j3; subst j3;dsimp only at h;replace h:=qab h; subst h;exact zfg.ret rfl (Snp.zdq (.cons (.za5 (.cons (zai (eI .i64)) (.cons (zai (eI .i64)) (.cons (zai (eI .i64)) .nil)))) (.cons (.lit _) .nil)))
 rintro⟨⟩ rfl;dsimp only at h;rw[congrFun hT3 ()];refine zab ?_;obtain⟨y16,g17,h⟩:=bind_some h;try simp only[rnA,Nat.reduceEqDiff,Nat.reduceLT,Nat.reduceAdd,Nat.reduceLeDiff]
 refine EvL.clone (t:=false) (zs:=p1) g17 rfl rfl ?_;try simp only[rnA,Nat.reduceLT,Nat.reduceAdd]
 refine EvL.zeU (S':=⟨56,[(4,(.ptr 1 0)),(49,(.agg [(fzE false (eI .i64) r1.1.factor.vars),(fzE false (eI .i64) r1.1.factor.zad),(fzE false (eI .i64) r1.1.factor.w),(fzE false (eI .i64) r1.1.steps)])),(51,(fzE true (eI .i64) y16)),(52,(.agg [(.clo 101 [] [])]))],[.gone,.cells [zas,zas,zas]]⟩) (zbE.m0 [.d,.k,.d,.f] rfl (msq (ms rfl ⟨qci,qci,qci,qci,qci⟩ (mf rfl (zaR (e:=(eI .i64)) (t:=true) rfl rfl (.inl rfl) rfl rfl (fun k h=>nomatch h) (fun h=>by cases h<;>rfl)) (ms rfl ⟨⟨qci,qci⟩,qci⟩ trivial)))) ⟨rfl,⟨MB.cs ⟨qci,qci,qci,qci⟩,qci⟩⟩) (zab ?_);obtain⟨r18,g19,h⟩:=bind_some h;try simp only[rnA]
 refine EvL.fnS (zbr g19) rfl rfl (.cons (Mzs.agg (.cons (zag _ _ (fun h=>by cases h<;>contradiction)) (.cons (zag _ _ (fun h=>by cases h<;>contradiction)) (.cons (zag _ _ (fun h=>by cases h<;>contradiction)) (.cons (zag _ _ (fun h=>by cases h<;>contradiction)) .nil))))) (.cons (zag _ _ (fun h=>by cases h<;>contradiction)) (.cons (Mzs.agg (.cons zgb .nil)) .nil))) ⟨⟨(zac _ _),(zac _ _),(zac _ _),(zac _ _),qci⟩,(zac _ _),⟨⟨qci,qci⟩,qci⟩,qci⟩ ⟨⟨(zac _ _),(zac _ _),(zac _ _),qci⟩,qci,qci⟩ ?_;try simp only[rnA,Nat.reduceEqDiff,Nat.reduceLT,Nat.reduceAdd,Nat.reduceLeDiff]
 replace h:=qab h; subst h;exact zfg.ret rfl (Snp.zdq (.cons (.za5 (.cons (zaa _ _ (fun h=>nomatch h)) (.cons (zaa _ _ (fun h=>nomatch h)) (.cons (zaa _ _ (fun h=>nomatch h)) .nil)))) (.cons (.lit _) .nil)))
def zeG:Option S_api_Factor:=
some (S_api_Factor.mk [] [] [1])
theorem zjb{r:S_api_Factor}(h:zeG=some r):Lx.Fn mC 45 [] (.agg [(fzE true (eI .i64) r.vars),(fzE true (eI .i64) r.zad),(fzE true (eI .i64) r.w)]):=by
 refine fnO (by conv=>lhs; cbv) ?_;unfold zeG at h;refine zab ?_;try simp only[rnA,Nat.reduceEqDiff,reduceIte,Nat.reduceLT,Nat.reduceAdd,Nat.reduceLeDiff,Nat.reduceMul,Nat.reduceSub,Int.reduceLE,Int.reduceLT,Int.reduceBEq,Nat.reduceBEq,reduceCtorEq,zae]
 replace h:=qab h; subst h;exact zcC.ret rfl (.za5 (.cons (zai (eI .i64)) (.cons (zai (eI .i64)) (.cons (zb7 (e:=(eI .i64)) (t:=true) rfl (.inl rfl) rfl rfl (fun k h=>by cases h; exact qaj _) (fun _=>rfl)) .nil))))
def zbI(p0:(List Int))(p1:(List Int))(p2:(List Int)):Option S_api_Factor:=
some (S_api_Factor.mk p0 p1 p2)
theorem zbx{p0:(List Int)}{p1:(List Int)}{p2:(List Int)}{r:S_api_Factor}(h:zbI p0 p1 p2=some r):Lx.FnA mC 46 [(fzE false (eI .i64) p0),(fzE false (eI .i64) p1),(fzE false (eI .i64) p2)] (.agg [(fzE false (eI .i64) r.vars),(fzE false (eI .i64) r.zad),(fzE false (eI .i64) r.w)]):=by
 refine zsp (by conv=>lhs; cbv) ?_;unfold zbI at h;refine zab ?_;try simp only[rnA,Nat.reduceEqDiff,reduceIte,Nat.reduceLT,Nat.reduceAdd,Nat.reduceLeDiff,Nat.reduceMul,Nat.reduceSub,Int.reduceLE,Int.reduceLT,Int.reduceBEq,Nat.reduceBEq,reduceCtorEq,zae]
 replace h:=qab h; subst h;exact zfg.ret rfl (.za5 (.cons (zaa _ _ (fun h=>nomatch h)) (.cons (zaa _ _ (fun h=>nomatch h)) (.cons (zaa _ _ (fun h=>nomatch h)) .nil))))
end Go.Dc
