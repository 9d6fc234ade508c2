/-
 What factor_add computes. Conditions: none.
-/
import Derived.Test.YtbjogdohfhdaiaaEkJ1
set_option linter.unusedSimpArgs false
set_option linter.unusedVariables false
set_option maxRecDepth 100000
set_option maxHeartbeats 4000000
namespace Go.Dc
open Go Go.Mx Go.Lx Go.Proofs
def zfY(p0:Int)(p1:Int):Option (Int×Bool):=
some ((w64 (p0+p1)),(decide ((w64 (p0+p1))≤4611686018427387903)))
theorem zj6{p0:Int}{p1:Int}{r:(Int×Bool)}(h:zfY p0 p1=some r):Lx.Fn mC 79 [(dI p0),(dI p1)] (.tup [(dI r.1),(dB r.2)]):=by
 refine fnO (by conv=>lhs; cbv) ?_;unfold zfY at h;refine zaa ?_;try simp only[rnA,Nat.reduceEqDiff,reduceIte,Nat.reduceLT,Nat.reduceAdd,Nat.reduceLeDiff,Nat.reduceMul,Nat.reduceSub,Int.reduceLE,Int.reduceLT,Int.reduceBEq,Nat.reduceBEq,reduceCtorEq]
 replace h:=qaa h; subst h;exact za0.ret rfl (Snp.zb7 (.cons (.lit _) (.cons (.lit _) .nil)))
def zbn(p1:(List Int))(p0:S_factor_table):Nat→Int→Int→(List Int)→Option (Int×(List Int))
 | 0,_,_,_=>none
 | n+1,v9,v24,l3=>(
bif (decide (v24<(p1.length:Int)))then(
(za6 p1 v24).bind fun x4=>
(zay p0 x4).bind fun r6=>
(za6 p0.factor.cards r6).bind fun x8=>
(za6 l3 v24).bind fun x10=>
(zgN l3 v24 x8).bind fun y12=>
zbn p1 p0 n (w64 (v9 * x8)) (w64 (v24+1)) y12)
else(
some (v9,l3)))
def zbk(p1:(List Int))(p0:S_factor_table)(l3:(List Int)):Nat→Int→Int→(List Int)→Option (List Int)
 | 0,_,_,_=>none
 | n+1,v14,v15,l6=>(
bif (decide (0≤v15))then(
(za6 p1 v15).bind fun x19=>
(zay p0 x19).bind fun r21=>
(za6 l6 r21).bind fun x23=>
(zgN l6 r21 v14).bind fun y25=>
(za6 l3 v15).bind fun x27=>
zbk p1 p0 l3 n (w64 (v14 * x27)) (w64 (v15 - 1)) y25)
else(
some l6))
def zaS(p0:S_factor_table)(v9:Int):List (Int×Int×(List Int))→(List Int)→Option (Out3 (List Int) (List Int) Empty)
 | [],l4=>some (.go l4)
 | y33 :: ys,l4=>(
(za6 l4 y33.2.1).bind fun x34=>
(za6 p0.factor.w y33.1).bind fun x36=>
(zfY x34 x36).bind fun r38=>
(zgN l4 y33.2.1 r38.1).bind fun y40=>
bif r38.2 then(
zaS p0 v9 ys y40)
else(
some (.brk y40)))
def zby(p0:S_factor_table)(p1:(List Int)):Option (S_api_Factor×Int):=
(zeO 8 (p1.length:Int) 0).bind fun y1=>
((zbn p1 p0 ((p1.length:Int) - 0+2:Int).toNat 1 0 y1:Option ((Int×(List Int))))).bind fun o=>match o with
|(v9,l3)=>(
(zeO 8 v9 0).bind fun y14=>
(zeO 8 (p0.factor.vars.length:Int) 0).bind fun y16=>
((zbk p1 p0 l3 ((w64 ((p1.length:Int) - 1)) - 0+2:Int).toNat 1 (w64 ((p1.length:Int) - 1)) y16:Option (List Int))).bind fun l6=>
(zcj p0.factor.cards l6).bind fun r29=>
(((zsU r29.1 r29.2).bind fun u31=>
((zaS p0 v9 u31 y14:Option (Out3 (List Int) (List Int) Empty))).bind fun o=>match o with
| .go l4=>(
some (true,l4))
| .brk l4=>(
some (false,l4))
| .ret r=>nomatch r:Option ((Bool×(List Int))))).bind fun o=>match o with
|(b7_0,l4)=>(
bif b7_0 then(
some ((S_api_Factor.mk p1 l3 l4),0))
else(
some ((S_api_Factor.mk [] [] []),6))))
def zc8:C:=
 .seq (rg [oW 3 0,
 oW 5 2,
 ⟨some 6,.alloc [(.slice none 0 0),(.slice none 0 0),(.slice none 0 0)],none⟩,
 oK 7 0])
 (.scope (.seq (rg [oM 19 1,
 oE 20 19,
 ⟨some 21,.mk 1 8 [(.int .i64 0)] (.s 20) (.s 20),none⟩,
 oM 8 21,
 oK 9 1])
 (.seq (.seq (rg [oM 22 1,
 oE 23 22,
 oK 24 0])
 (.scope (.block 0 (.loop (.seq (rg [oB 25 .lss 24 23])
 (.seq (.cond (.s 25) (.skip)
 (.exit 0))
 (.seq (.block 1 (.seq (rg [oM 26 24,
 oI 27 1 22 24,
 oL 28 27,
 oM 10 26,
 oM 11 28])
 (.seq (.reg true true [oM 29 8,
 oM 30 10,
 oF 31 0 3,
 oF 32 1 31,
 oL 33 32,
 oN 34 4 3,
 oM 35 11,
 oV 36 90 34 35,
 oI 37 1 33 36,
 oL 38 37,
 oI 39 1 29 30,
 oS 1 39 38])
 (rg [oM 40 9,
 oM 41 8,
 oM 42 10,
 oI 43 1 41 42,
 oL 44 43,
 oB 45 .mul 40 44,
 oM 9 45]))))
 (rg [oD 46 .add 24 1,
 oM 24 46]))))))))
 (.seq (.reg true false [oM 47 9,
 oF 49 0 3,
 oF 50 0 49,
 oL 51 50,
 oE 52 51,
 ⟨some 48,.mk 1 8 [(.int .i64 0)] (.s 47) (.s 47),none⟩,
 ⟨some 12,.alloc [(.slice none 0 0)],none⟩,
 ⟨none,.avo [(.s 50)] (.s 12),none⟩,
 oS 1 12 48,
 ⟨some 53,.mk 1 8 [(.int .i64 0)] (.s 52) (.s 52),none⟩,
 oM 13 53,
 oK 14 1])
 (.seq (.seq (rg [oM 54 1,
 oE 55 54,
 oD 56 .sub 55 1,
 oM 15 56])
 (.scope (.block 2 (.loop (.seq (.seq (rg [oM 57 15,
 oD 58 .geq 57 0])
 (.cond (.s 58) (.skip)
 (.exit 2)))
 (.seq (.block 3 (.seq (.reg true false [oM 61 13,
 oN 62 4 3,
 oM 63 1,
 oM 64 15,
 oI 65 1 63 64,
 oL 66 65,
 oM 68 14,
 oV 67 90 62 66,
 oI 69 1 61 67,
 oS 1 69 68])
 (rg [oM 70 14,
 oM 71 8,
 oM 72 15,
 oI 73 1 71 72,
 oL 74 73,
 oB 75 .mul 70 74,
 oM 14 75])))
 (rg [oM 59 15,
 oD 60 .sub 59 1,
 oM 15 60])))))))
 (.seq (rg [⟨some 16,.alloc [(.bool false)],none⟩,
 ⟨none,.store 1 (.s 16) (.c (.bool true)),none⟩])
 (.seq (.label 0)
 (.seq (.seq (rg [oF 76 0 3,
 oF 77 1 76,
 oL 78 77,
 oM 79 13,
 oV 80 84 78 79])
 (.scope (.block 4 (.zem (.s 80) [81,82] (.seq (rg [oM 17 81])
 (rg [oM 18 82]))
 (.block 5 (.seq (.reg true true [oL 84 12,
 oM 85 18,
 oF 86 0 5,
 oL 87 86,
 oL 88 12,
 oM 89 18,
 oI 90 1 88 89,
 oL 91 90,
 oF 92 0 3,
 oF 93 2 92,
 oL 94 93,
 oM 95 17,
 oI 96 1 94 95,
 oL 97 96,
 ⟨some 98,.zdW (.s 87) [(.s 91),(.s 97)],none⟩,
 oM 83 98,
 oX 99 83 0,
 oX 100 83 1,
 oI 101 1 84 85,
 oS 1 101 99,
 oS 1 16 100])
 (.block 6 (.seq (rg [oL 103 16,
 ⟨some 104,.un .not (.s 103),none⟩,
 oM 102 104])
 (.cond (.s 102) (.exit 4)
 (.skip))))))))))
 (.seq (.seq (rg [oL 105 16,
 ⟨some 106,.un .not (.s 105),none⟩])
 (.cond (.s 106) (.seq (rg [⟨some 107,.build [(.slice none 0 0),(.slice none 0 0),(.slice none 0 0)] [],none⟩,
 oS 3 6 107,
 oK 7 6])
 (.ret))
 (.skip)))
 (.seq (rg [oM 108 1,
 oM 109 8,
 oL 110 12,
 ⟨some 111,.build [(.slice none 0 0),(.slice none 0 0),(.slice none 0 0)] [(0,1,(.s 108)),(1,1,(.s 109)),(2,1,(.s 110))],none⟩,
 oS 3 6 111,
 oK 7 0])
 (.ret)))))))))))
theorem zeq:zhM mC 78=some (112,zc8,[.cell 6 (some 3),.tmp 7],false):=zbs (by kernel_rfl)
theorem zcT{p0:S_factor_table}{p1:(List Int)}{r:(S_api_Factor×Int)}(h:zby p0 p1=some r):Lx.FnA mC 78 [(.agg [(fzE false (eI .i64) p0.factor.vars),(fzE false (eI .i64) p0.factor.cards),(fzE false (eI .i64) p0.factor.w),(fzE false (eI .i64) p0.steps)]),(fzE false (eI .i64) p1),(.agg [(.clo 79 [] [])])] (.tup [(.agg [(fzE false (eI .i64) r.1.vars),(fzE false (eI .i64) r.1.cards),(fzE false (eI .i64) r.1.w)]),(dI r.2)]):=by
 refine FnA.of zeq (zaZ rfl) (qac rfl) ?_;unfold zby at h;simp only[zc8,zlX];refine zaa ?_;try simp only[rnA,Nat.reduceEqDiff,Nat.reduceLT,Nat.reduceAdd,reduceCtorEq]
 refine EvL.scope (zaa ?_);obtain⟨y1,g2,h⟩:=bind_some h;try simp only[rnA,Nat.reduceEqDiff,Nat.reduceLT,Nat.reduceAdd,reduceCtorEq,zam,(zau g2).1.1,(zau g2).1.2,qa1,(show List.replicate (Int.toNat (p1.length:Int)) [(dI 0)]=y1.map ((eI .i64).c true)from zbD g2 ((eI .i64).c true))]
 obtain⟨o8,j8,h⟩:=bind_some h;obtain⟨T8,hT8⟩:=mkT fun a:(Int×(List Int))=>⟨112,[(1,(fzE false (eI .i64) p1)),(3,(.ptr 0 0)),(5,(.ptr 1 0)),(6,(.ptr 2 0)),(8,(.sl 3 0 1 (Int.toNat (p1.length:Int)) (some (Int.toNat (p1.length:Int))) (Int.toNat (p1.length:Int)))),(9,(dI a.1))],[.cells [(fzE false (eI .i64) p0.factor.vars),(fzE false (eI .i64) p0.factor.cards),(fzE false (eI .i64) p0.factor.w),(fzE false (eI .i64) p0.steps)],.cells [(.clo 79 [] [])],.cells [zaD,zaD,zaD],.els 1 (a.2.map ((eI .i64).c true))]⟩
 refine EvL.jn T8 (fun a=>a=o8∧a.2.length=(Int.toNat (p1.length:Int))) ?_ ?_
 ·refine zaa ?_;simp only[rnA];obtain⟨T9,hT9⟩:=mkT fun a:(Int×Int×(List Int))=>⟨112,[(1,(fzE false (eI .i64) p1)),(3,(.ptr 0 0)),(5,(.ptr 1 0)),(6,(.ptr 2 0)),(8,(.sl 3 0 1 (Int.toNat (p1.length:Int)) (some (Int.toNat (p1.length:Int))) (Int.toNat (p1.length:Int)))),(9,(dI a.1)),(22,(fzE false (eI .i64) p1)),(23,(dI (p1.length:Int))),(24,(dI a.2.1))],[.cells [(fzE false (eI .i64) p0.factor.vars),(fzE false (eI .i64) p0.factor.cards),(fzE false (eI .i64) p0.factor.w),(fzE false (eI .i64) p0.steps)],.cells [(.clo 79 [] [])],.cells [zaD,zaD,zaD],.els 1 (a.2.2.map ((eI .i64).c true))]⟩
  refine EvL.rounds (α:=(Int×Int×(List Int))) T9 (fun n a=>zbn p1 p0 n a.1 a.2.1 a.2.2=some o8∧a.2.2.length=(Int.toNat (p1.length:Int))) ((p1.length:Int) - 0+2:Int).toNat (1,0,y1) (by rw[hT9]; exact wm0 [.k,.k,.k,.k] ⟨MB.cs ⟨qb1,qb1,qb1,qb1,qb1⟩,⟨MB.cs ⟨⟨qb1,qb1⟩,qb1⟩,⟨MB.cs ⟨qb1,qb1,qb1,qb1⟩,⟨MB.es (eI .i64) true y1,qb1⟩⟩⟩⟩) ⟨j8,zaN g2⟩ (fun _ h=>nomatch (show(none:Option (Int×(List Int)))=some o8 from h.1)) ?_;rintro n ⟨v9,v24,l3⟩ ⟨j8,el3⟩;simp only[zbn]at j8;rw[congrFun hT9 (v9,v24,l3)];refine zaa ?_;try simp only[rnA,Nat.reduceEqDiff,Nat.reduceLT]
  cases c3:(decide (v24<(p1.length:Int)))
  ·rw[c3,cond_false]at j8;try simp only[rnA]
   replace j8:=qaa j8; subst j8;exact⟨_,⟨rfl,el3⟩,by rw[hT8]; exact wm0 [.k,.k,.k,.k] ⟨MB.cs ⟨qb1,qb1,qb1,qb1,qb1⟩,⟨MB.cs ⟨⟨qb1,qb1⟩,qb1⟩,⟨MB.cs ⟨qb1,qb1,qb1,qb1⟩,⟨MB.es (eI .i64) true l3,qb1⟩⟩⟩⟩⟩
  rw[c3,cond_true]at j8;obtain⟨x4,g5,j8⟩:=bind_some j8;obtain⟨r6,g7,j8⟩:=bind_some j8;try simp only[rnA,Nat.reduceEqDiff,Nat.reduceLT,Nat.reduceAdd,Nat.reduceLeDiff,zak (n:=1) (e:=(eI .i64)) rfl g5]
  refine EvL.fn (zaF g7) rfl rfl (.cons (.za8 (.cons (zad _ _ (fun h=>nomatch h)) (.cons (zad _ _ (fun h=>nomatch h)) (.cons (zad _ _ (fun h=>nomatch h)) (.cons (zad _ _ (fun h=>nomatch h)) .nil))))) (.cons (.lit _) .nil)) ?_;obtain⟨x8,g9,j8⟩:=bind_some j8;obtain⟨x10,g11,j8⟩:=bind_some j8;obtain⟨y12,g13,j8⟩:=bind_some j8;try simp only[rnA,Nat.reduceEqDiff,Nat.reduceLT,Nat.reduceLeDiff,zak (n:=1) (e:=(eI .i64)) rfl g9,el3,za3 g11,(show v24<(((Int.toNat (p1.length:Int)):Nat):Int)from el3 ▸ zaY g11),zaB g11 ((eI .i64).c true),(show(l3.map ((eI .i64).c true)).set v24.toNat [(dI x8)]=y12.map ((eI .i64).c true)from za2 g13 ((eI .i64).c true)),(zaR g13).trans el3,zaB (zoz g13) ((eI .i64).c true)]
  exact⟨((w64 (v9 * x8)),(w64 (v24+1)),y12),⟨j8,(zaR g13).trans el3⟩,by rw[hT9]; exact wm0 [.k,.k,.k,.k] ⟨MB.cs ⟨qb1,qb1,qb1,qb1,qb1⟩,⟨MB.cs ⟨⟨qb1,qb1⟩,qb1⟩,⟨MB.cs ⟨qb1,qb1,qb1,qb1⟩,⟨MB.es (eI .i64) true y12,qb1⟩⟩⟩⟩⟩
 rintro⟨v9,l3⟩ ⟨rfl,el3⟩;dsimp only at h;rw[congrFun hT8 (v9,l3)];refine zaa ?_;obtain⟨y14,g15,h⟩:=bind_some h;obtain⟨y16,g17,h⟩:=bind_some h;try simp only[rnA,Nat.reduceEqDiff,Nat.reduceLT,Nat.reduceAdd,Nat.reduceLeDiff,Nat.reduceBEq,zam,(zau g15).1.1,(zau g15).1.2,qa1,(show List.replicate (Int.toNat v9) [(dI 0)]=y14.map ((eI .i64).c true)from zbD g15 ((eI .i64).c true)),(zau g17).1.1,(zau g17).1.2,(show List.replicate (Int.toNat (p0.factor.vars.length:Int)) [(dI 0)]=y16.map ((eI .i64).c true)from zbD g17 ((eI .i64).c true))]
 obtain⟨o10,j10,h⟩:=bind_some h;obtain⟨T10,hT10⟩:=mkT fun a:(List Int)=>⟨112,[(1,(fzE false (eI .i64) p1)),(3,(.ptr 0 0)),(5,(.ptr 1 0)),(6,(.ptr 2 0)),(8,(.sl 3 0 1 (Int.toNat (p1.length:Int)) (some (Int.toNat (p1.length:Int))) (Int.toNat (p1.length:Int)))),(12,(.ptr 5 0)),(13,(.sl 6 0 1 (Int.toNat (p0.factor.vars.length:Int)) (some (Int.toNat (p0.factor.vars.length:Int))) (Int.toNat (p0.factor.vars.length:Int))))],[.cells [(fzE false (eI .i64) p0.factor.vars),(fzE false (eI .i64) p0.factor.cards),(fzE false (eI .i64) p0.factor.w),(fzE false (eI .i64) p0.steps)],.cells [(.clo 79 [] [])],.cells [zaD,zaD,zaD],.els 1 (l3.map ((eI .i64).c true)),.els 1 (y14.map ((eI .i64).c true)),.cells [(.sl 4 0 1 (Int.toNat v9) (some (Int.toNat v9)) (Int.toNat v9))],.els 1 (a.map ((eI .i64).c true))]⟩
 refine EvL.jn T10 (fun a=>a=o10∧a.length=(Int.toNat (p0.factor.vars.length:Int))) ?_ ?_
 ·refine zaa ?_;simp only[rnA];obtain⟨T11,hT11⟩:=mkT fun a:(Int×Int×(List Int))=>⟨112,[(1,(fzE false (eI .i64) p1)),(3,(.ptr 0 0)),(5,(.ptr 1 0)),(6,(.ptr 2 0)),(8,(.sl 3 0 1 (Int.toNat (p1.length:Int)) (some (Int.toNat (p1.length:Int))) (Int.toNat (p1.length:Int)))),(12,(.ptr 5 0)),(13,(.sl 6 0 1 (Int.toNat (p0.factor.vars.length:Int)) (some (Int.toNat (p0.factor.vars.length:Int))) (Int.toNat (p0.factor.vars.length:Int)))),(14,(dI a.1)),(15,(dI a.2.1))],[.cells [(fzE false (eI .i64) p0.factor.vars),(fzE false (eI .i64) p0.factor.cards),(fzE false (eI .i64) p0.factor.w),(fzE false (eI .i64) p0.steps)],.cells [(.clo 79 [] [])],.cells [zaD,zaD,zaD],.els 1 (l3.map ((eI .i64).c true)),.els 1 (y14.map ((eI .i64).c true)),.cells [(.sl 4 0 1 (Int.toNat v9) (some (Int.toNat v9)) (Int.toNat v9))],.els 1 (a.2.2.map ((eI .i64).c true))]⟩
  refine EvL.rounds (α:=(Int×Int×(List Int))) T11 (fun n a=>zbk p1 p0 l3 n a.1 a.2.1 a.2.2=some o10∧a.2.2.length=(Int.toNat (p0.factor.vars.length:Int))) ((w64 ((p1.length:Int) - 1)) - 0+2:Int).toNat (1,(w64 ((p1.length:Int) - 1)),y16) (by rw[hT11]; exact wm0 [.k,.k,.k,.k,.k,.k,.k] ⟨MB.cs ⟨qb1,qb1,qb1,qb1,qb1⟩,⟨MB.cs ⟨⟨qb1,qb1⟩,qb1⟩,⟨MB.cs ⟨qb1,qb1,qb1,qb1⟩,⟨MB.es (eI .i64) true l3,⟨MB.es (eI .i64) true y14,⟨MB.cs ⟨rfl,qb1⟩,⟨MB.es (eI .i64) true y16,qb1⟩⟩⟩⟩⟩⟩⟩) ⟨j10,zaN g17⟩ (fun _ h=>nomatch (show(none:Option (List Int))=some o10 from h.1)) ?_;rintro n ⟨v14,v15,l6⟩ ⟨j10,el6⟩;simp only[zbk]at j10;rw[congrFun hT11 (v14,v15,l6)];refine zaa ?_;try simp only[rnA,Nat.reduceEqDiff,Nat.reduceLT]
  cases c18:(decide (0≤v15))
  ·rw[c18,cond_false]at j10;try simp only[rnA]
   replace j10:=qaa j10; subst j10;exact⟨_,⟨rfl,el6⟩,by rw[hT10]; exact wm0 [.k,.k,.k,.k,.k,.k,.k] ⟨MB.cs ⟨qb1,qb1,qb1,qb1,qb1⟩,⟨MB.cs ⟨⟨qb1,qb1⟩,qb1⟩,⟨MB.cs ⟨qb1,qb1,qb1,qb1⟩,⟨MB.es (eI .i64) true l3,⟨MB.es (eI .i64) true y14,⟨MB.cs ⟨rfl,qb1⟩,⟨MB.es (eI .i64) true l6,qb1⟩⟩⟩⟩⟩⟩⟩⟩
  rw[c18,cond_true]at j10;obtain⟨x19,g20,j10⟩:=bind_some j10;obtain⟨r21,g22,j10⟩:=bind_some j10;try simp only[rnA,Nat.reduceEqDiff,Nat.reduceLT,Nat.reduceAdd,Nat.reduceLeDiff,zak (n:=1) (e:=(eI .i64)) rfl g20]
  refine EvL.fn (zaF g22) rfl rfl (.cons (.za8 (.cons (zad _ _ (fun h=>nomatch h)) (.cons (zad _ _ (fun h=>nomatch h)) (.cons (zad _ _ (fun h=>nomatch h)) (.cons (zad _ _ (fun h=>nomatch h)) .nil))))) (.cons (.lit _) .nil)) ?_;obtain⟨x23,g24,j10⟩:=bind_some j10;obtain⟨y25,g26,j10⟩:=bind_some j10;obtain⟨x27,g28,j10⟩:=bind_some j10;try simp only[rnA,Nat.reduceEqDiff,Nat.reduceLT,Nat.reduceLeDiff,el6,za3 g24,(show r21<(((Int.toNat (p0.factor.vars.length:Int)):Nat):Int)from el6 ▸ zaY g24),zaB g24 ((eI .i64).c true),(show(l6.map ((eI .i64).c true)).set r21.toNat [(dI v14)]=y25.map ((eI .i64).c true)from za2 g26 ((eI .i64).c true)),el3,za3 g28,(show v15<(((Int.toNat (p1.length:Int)):Nat):Int)from el3 ▸ zaY g28),zaB g28 ((eI .i64).c true)]
  exact⟨((w64 (v14 * x27)),(w64 (v15 - 1)),y25),⟨j10,(zaR g26).trans el6⟩,by rw[hT11]; exact wm0 [.k,.k,.k,.k,.k,.k,.k] ⟨MB.cs ⟨qb1,qb1,qb1,qb1,qb1⟩,⟨MB.cs ⟨⟨qb1,qb1⟩,qb1⟩,⟨MB.cs ⟨qb1,qb1,qb1,qb1⟩,⟨MB.es (eI .i64) true l3,⟨MB.es (eI .i64) true y14,⟨MB.cs ⟨rfl,qb1⟩,⟨MB.es (eI .i64) true y25,qb1⟩⟩⟩⟩⟩⟩⟩⟩
 rintro l6 ⟨rfl,el6⟩;rw[congrFun hT10 l6];refine zaa ?_;try simp only[rnA,Nat.reduceEqDiff,Nat.reduceLT,Nat.reduceAdd,Nat.reduceLeDiff]
 refine EvL.zeH (S':=⟨112,[(1,(fzE false (eI .i64) p1)),(3,(.ptr 0 0)),(5,(.ptr 1 0)),(6,(.ptr 2 0)),(8,(.sl 3 0 1 (Int.toNat (p1.length:Int)) (some (Int.toNat (p1.length:Int))) (Int.toNat (p1.length:Int)))),(12,(.ptr 5 0)),(16,(.ptr 7 0)),(78,(fzE false (eI .i64) p0.factor.cards)),(79,(fzE true (eI .i64) l6))],[.cells [(fzE false (eI .i64) p0.factor.vars),(fzE false (eI .i64) p0.factor.cards),(fzE false (eI .i64) p0.factor.w),(fzE false (eI .i64) p0.steps)],.cells [(.clo 79 [] [])],.cells [zaD,zaD,zaD],.els 1 (l3.map ((eI .i64).c true)),.els 1 (y14.map ((eI .i64).c true)),.cells [(.sl 4 0 1 (Int.toNat v9) (some (Int.toNat v9)) (Int.toNat v9))],.gone,.cells [(dB true)]]⟩) (zaV.m0 [.k,.k,.k,.k,.k,.k,.f,.k] rfl (msq (msq (msq (msq (msq (msq (msq (msq (mf rfl (zcM (e:=(eI .i64)) (t:=true) rfl rfl (.inl rfl) (el6).symm (el6).symm (fun k h=>by cases h; exact qae _) (fun h=>by cases h<;>rfl)) trivial))))))))) ⟨MB.cs ⟨qb1,qb1,qb1,qb1,qb1⟩,⟨MB.cs ⟨⟨qb1,qb1⟩,qb1⟩,⟨MB.cs ⟨qb1,qb1,qb1,qb1⟩,⟨MB.es (eI .i64) true l3,⟨MB.es (eI .i64) true y14,⟨MB.cs ⟨rfl,qb1⟩,⟨rfl,⟨MB.cs ⟨qb1,qb1⟩,qb1⟩⟩⟩⟩⟩⟩⟩⟩) (zaa ?_);obtain⟨r29,g30,h⟩:=bind_some h;try simp only[rnA]
 refine EvL.fnS (zcF g30) rfl rfl (.cons (zal _ _ (fun h=>by cases h<;>contradiction)) (.cons (zal _ _ (fun h=>by cases h<;>contradiction)) .nil)) ⟨(zae _ _),(zae _ _),qb1⟩ ⟨qb1,⟨⟨rfl,zae _ _,qb1⟩,⟨rfl,zae _ _,qb1⟩,qb1⟩⟩ ?_;try simp only[rnA,Nat.reduceLT]
 obtain⟨o13,j13,h⟩:=bind_some h;obtain⟨T13,hT13⟩:=mkT fun a:(Bool×(List Int))=>⟨112,[(1,(fzE false (eI .i64) p1)),(6,(.ptr 2 0)),(8,(.sl 3 0 1 (Int.toNat (p1.length:Int)) (some (Int.toNat (p1.length:Int))) (Int.toNat (p1.length:Int)))),(12,(.ptr 5 0)),(16,(.ptr 7 0))],[.gone,.gone,.cells [zaD,zaD,zaD],.els 1 (l3.map ((eI .i64).c true)),.els 1 (a.2.map ((eI .i64).c true)),.cells [(.sl 4 0 1 (Int.toNat v9) (some (Int.toNat v9)) (Int.toNat v9))],.gone,.cells [(dB a.1)]]⟩
 refine EvL.jn T13 (fun a=>a=o13∧a.2.length=(Int.toNat v9)) ?_ ?_
 ·refine zaa ?_;try simp only[rnA]
  obtain⟨u31,g32,j13⟩:=bind_some j13;obtain⟨o14,j14,j13⟩:=bind_some j13;obtain⟨T14,hT14⟩:∃ T:(List Int)→List LB,T=(fun a=>[.cells [(fzE false (eI .i64) p0.factor.vars),(fzE false (eI .i64) p0.factor.cards),(fzE false (eI .i64) p0.factor.w),(fzE false (eI .i64) p0.steps)],.cells [(.clo 79 [] [])],.cells [zaD,zaD,zaD],.els 1 (l3.map ((eI .i64).c true)),.els 1 (a.map ((eI .i64).c true)),.cells [(.sl 4 0 1 (Int.toNat v9) (some (Int.toNat v9)) (Int.toNat v9))],.gone,.cells [(dB true)]]):=⟨_,rfl⟩;obtain⟨TX14,hTX14⟩:∃ T:(List Int)→List LB,T=(fun a=>[.cells [(fzE false (eI .i64) p0.factor.vars),(fzE false (eI .i64) p0.factor.cards),(fzE false (eI .i64) p0.factor.w),(fzE false (eI .i64) p0.steps)],.cells [(.clo 79 [] [])],.cells [zaD,zaD,zaD],.els 1 (l3.map ((eI .i64).c true)),.els 1 (a.map ((eI .i64).c true)),.cells [(.sl 4 0 1 (Int.toNat v9) (some (Int.toNat v9)) (Int.toNat v9))],.gone,.cells [(dB false)]]):=⟨_,rfl⟩;refine EvL.zeH (S':=⟨112,[(1,(fzE false (eI .i64) p1)),(3,(.ptr 0 0)),(5,(.ptr 1 0)),(6,(.ptr 2 0)),(8,(.sl 3 0 1 (Int.toNat (p1.length:Int)) (some (Int.toNat (p1.length:Int))) (Int.toNat (p1.length:Int)))),(12,(.ptr 5 0)),(16,(.ptr 7 0)),(80,(.clo 120 [] [(.fptr false ((eL (eI .i64)).c false r29.1)),(.fptr false ((eL (eI .i64)).c false r29.2))]))],T14 y14⟩) (by rw[hT14]; exact wm0 [.k,.k,.k,.k,.k,.k,.k,.k] ⟨MB.cs ⟨qb1,qb1,qb1,qb1,qb1⟩,⟨MB.cs ⟨⟨qb1,qb1⟩,qb1⟩,⟨MB.cs ⟨qb1,qb1,qb1,qb1⟩,⟨MB.es (eI .i64) true l3,⟨MB.es (eI .i64) true y14,⟨MB.cs ⟨rfl,qb1⟩,⟨MB.same trivial,⟨MB.cs ⟨qb1,qb1⟩,qb1⟩⟩⟩⟩⟩⟩⟩⟩) ?_;refine EvL.ziJ (n0:=8) (zcx g32) rfl (bm:=.block 5 (.seq (.reg true true [⟨some 84,.load none (.s 12),none⟩,⟨some 85,.mov (.s 18),none⟩,⟨some 86,.fld 0 (.s 5),none⟩,⟨some 87,.load none (.s 86),none⟩,⟨some 88,.load none (.s 12),none⟩,⟨some 89,.mov (.s 18),none⟩,⟨some 90,.idxS 1 (.s 88) (.s 89),none⟩,⟨some 91,.load none (.s 90),none⟩,⟨some 92,.fld 0 (.s 3),none⟩,⟨some 93,.fld 2 (.s 92),none⟩,⟨some 94,.load none (.s 93),none⟩,⟨some 95,.mov (.s 17),none⟩,⟨some 96,.idxS 1 (.s 94) (.s 95),none⟩,⟨some 97,.load none (.s 96),none⟩,⟨some 98,.zdW (.s 87) [(.s 91),(.s 97)],none⟩,⟨some 83,.mov (.s 98),none⟩,⟨some 99,.ext (.s 83) 0,none⟩,⟨some 100,.ext (.s 83) 1,none⟩,⟨some 101,.idxS 1 (.s 84) (.s 85),none⟩,⟨none,.store 1 (.s 101) (.s 99),none⟩,⟨none,.store 1 (.s 16) (.s 100),none⟩]) (.block 6 (.seq (.reg false false [⟨some 103,.load none (.s 16),none⟩,⟨some 104,.un .not (.s 103),none⟩,⟨some 102,.mov (.s 104),none⟩]) (.cond (.s 102) (.exit 4) (.skip)))))) rfl T14 (fun i a=>zaS p0 v9 (u31.drop i) a=some o14∧a.length=(Int.toNat v9)) (fun x L1=>match x with | .normal=>∃ a,o14=.go a∧a.length=(Int.toNat v9)∧L1=T14 a | .exit id=>∃ a,o14=.brk a∧a.length=(Int.toNat v9)∧id=4∧L1=TX14 a | .ret=>L1.length=8∧zcH (8+1) L1∧(zfD [.cell 6 (some 3),.tmp 7] ((.tup [(.agg [(fzE false (eI .i64) r.1.vars),(fzE false (eI .i64) r.1.cards),(fzE false (eI .i64) r.1.w)]),(dI r.2)]))) .ret ⟨112,[(1,(fzE false (eI .i64) p1)),(3,(.ptr 0 0)),(5,(.ptr 1 0)),(6,(.ptr 2 0)),(8,(.sl 3 0 1 (Int.toNat (p1.length:Int)) (some (Int.toNat (p1.length:Int))) (Int.toNat (p1.length:Int)))),(12,(.ptr 5 0)),(16,(.ptr 7 0)),(80,(.clo 120 [] [(.fptr false ((eL (eI .i64)).c false r29.1)),(.fptr false ((eL (eI .i64)).c false r29.2))]))],L1 ++ [.lost]⟩| _=>False) y14 ?_ (qbn _) ?_ ?_ ?_ (fun d L1 hx=>hx.elim) ?_ ?_ ?_ ?_ ?_ ?_
  ·intro a; rw[hT14]; rfl
  ·exact⟨qb1,(qac rfl),(qac rfl),(qac rfl),(qac rfl),(qac rfl),(qac rfl),⟨qb1,⟨qb1,qb1,qb1⟩⟩,qb1⟩
  ·intro a; rw[hT14]; exact⟨⟨qb1,qb1,qb1,qb1,qb1⟩,⟨⟨qb1,qb1⟩,qb1⟩,⟨qb1,qb1,qb1,qb1⟩,(zdg (eI .i64) _ _ _),(zdg (eI .i64) _ _ _),⟨(qac rfl),qb1⟩,qb1,⟨qb1,qb1⟩,qb1⟩
  ·intro x L1 hx;cases x with
   | normal=>obtain⟨a,_,_,rfl⟩:=hx; exact⟨by rw[hT14]; rfl,by rw[hT14]; exact⟨⟨qb1,qb1,qb1,qb1,qb1⟩,⟨⟨qb1,qb1⟩,qb1⟩,⟨qb1,qb1,qb1,qb1⟩,(zdg (eI .i64) _ _ _),(zdg (eI .i64) _ _ _),⟨(qac rfl),qb1⟩,qb1,⟨qb1,qb1⟩,qb1⟩⟩
   | ret=>exact⟨hx.1,hx.2.1⟩
   | exit id=>obtain⟨a,_,_,_,rfl⟩:=hx; exact⟨by rw[hTX14]; rfl,by rw[hTX14]; exact⟨⟨qb1,qb1,qb1,qb1,qb1⟩,⟨⟨qb1,qb1⟩,qb1⟩,⟨qb1,qb1,qb1,qb1⟩,(zdg (eI .i64) _ _ _),(zdg (eI .i64) _ _ _),⟨(qac rfl),qb1⟩,qb1,⟨qb1,qb1⟩,qb1⟩⟩
   | panic d=>exact hx.elim
  ·exact⟨j14,zaN g15⟩
  ·rintro i l4 y33 args G lpF hy ⟨hi14,el4⟩ ⟨rfl,rfl⟩ hkin;rw[zes hy]at hi14;simp only[zaS]at hi14;refine⟨_,_,rfl,rfl,?_⟩;rw[congrFun hT14 l4];refine zaa ?_;obtain⟨x34,g35,hi14⟩:=bind_some hi14;obtain⟨x36,g37,hi14⟩:=bind_some hi14;obtain⟨r38,g39,hi14⟩:=bind_some hi14;try simp only[rnA,Nat.reduceEqDiff,Nat.reduceLT,Nat.reduceAdd,el4,za3 g35,(show y33.2.1<(((Int.toNat v9):Nat):Int)from el4 ▸ zaY g35),zaB g35 ((eI .i64).c true),zak (n:=1) (e:=(eI .i64)) rfl g37]
   refine EvL.fnv rfl rfl (zj6 g39) rfl (.cons (.lit _) (.cons (.lit _) .nil)) ?_;obtain⟨y40,g41,hi14⟩:=bind_some hi14;try simp only[rnA,Nat.reduceEqDiff,Nat.reduceLT,Nat.reduceLeDiff,el4,za3 g35,(show y33.2.1<(((Int.toNat v9):Nat):Int)from el4 ▸ zaY g35),zaB g35 ((eI .i64).c true),(show(l4.map ((eI .i64).c true)).set y33.2.1.toNat [(dI r38.1)]=y40.map ((eI .i64).c true)from za2 g41 ((eI .i64).c true))]
   cases c42:r38.2
   ·rw[c42,cond_false]at hi14;try simp only[rnA,Nat.reduceEqDiff]
    replace hi14:=qaa hi14; subst hi14;exact⟨TX14 y40,by rw[hTX14]; rfl,by rw[hTX14]; exact zaV.mK [.k,.k,.k,.k,.k,.k,.k,.k,.k,.k] rfl rfl qb1 ⟨MB.cs ⟨qb1,qb1,qb1,qb1,qb1⟩,⟨MB.cs ⟨⟨qb1,qb1⟩,qb1⟩,⟨MB.cs ⟨qb1,qb1,qb1,qb1⟩,⟨MB.es (eI .i64) true l3,⟨MB.es (eI .i64) true y40,⟨MB.cs ⟨rfl,qb1⟩,⟨MB.same trivial,⟨MB.cs ⟨qb1,qb1⟩,⟨.same (hkin _ (by decide)),⟨MB.same (zeP _ _ _ _),qb1⟩⟩⟩⟩⟩⟩⟩⟩⟩⟩,y40,rfl,(zaR g41).trans el4,rfl⟩
   rw[c42,cond_true]at hi14;try simp only[rnA]
   exact⟨T14 y40,by rw[hT14]; rfl,by rw[hT14]; exact zaV.mK [.k,.k,.k,.k,.k,.k,.k,.k,.k,.k] rfl rfl qb1 ⟨MB.cs ⟨qb1,qb1,qb1,qb1,qb1⟩,⟨MB.cs ⟨⟨qb1,qb1⟩,qb1⟩,⟨MB.cs ⟨qb1,qb1,qb1,qb1⟩,⟨MB.es (eI .i64) true l3,⟨MB.es (eI .i64) true y40,⟨MB.cs ⟨rfl,qb1⟩,⟨MB.same trivial,⟨MB.cs ⟨qb1,qb1⟩,⟨.same (hkin _ (by decide)),⟨MB.same (zeP _ _ _ _),qb1⟩⟩⟩⟩⟩⟩⟩⟩⟩⟩,y40,⟨hi14,(zaR g41).trans el4⟩,rfl⟩
  ·rintro l4 ⟨hi14,el4⟩;rw[qbi]at hi14;simp only[zaS]at hi14;exact⟨l4,(qaa hi14).symm,el4,rfl⟩
  ·rintro _ ⟨l4,oeq,el4,rfl⟩;have oeq2:=oeq.symm;subst oeq2;dsimp only at j13;rw[congrFun hT14 l4];refine zaa ?_;try simp only[rnA]
   replace j13:=qaa j13; subst j13;exact⟨_,⟨rfl,el4⟩,by rw[hT13]; exact wm0 [.d,.d,.k,.k,.k,.k,.d,.k] ⟨rfl,⟨rfl,⟨MB.cs ⟨qb1,qb1,qb1,qb1⟩,⟨MB.es (eI .i64) true l3,⟨MB.es (eI .i64) true l4,⟨MB.cs ⟨rfl,qb1⟩,⟨rfl,⟨MB.cs ⟨qb1,qb1⟩,qb1⟩⟩⟩⟩⟩⟩⟩⟩⟩
  ·rintro id _ ⟨l4,oeq,el4,rfl,rfl⟩;rw[oeq]at j13;dsimp only at j13;rw[congrFun hTX14 l4];refine zaa ?_;try simp only[rnA]
   replace j13:=qaa j13; subst j13;exact⟨_,⟨rfl,el4⟩,by rw[hT13]; exact wm0 [.d,.d,.k,.k,.k,.k,.d,.k] ⟨rfl,⟨rfl,⟨MB.cs ⟨qb1,qb1,qb1,qb1⟩,⟨MB.es (eI .i64) true l3,⟨MB.es (eI .i64) true l4,⟨MB.cs ⟨rfl,qb1⟩,⟨rfl,⟨MB.cs ⟨qb1,qb1⟩,qb1⟩⟩⟩⟩⟩⟩⟩⟩⟩
  intro L1 hx; exact hx.2.2
 rintro⟨b7_0,l4⟩ ⟨rfl,el4⟩;dsimp only at h;rw[congrFun hT13 (b7_0,l4)];refine zaa ?_;try simp only[rnA,Nat.reduceEqDiff,Nat.reduceLT]
 cases c43:b7_0
 ·rw[c43,cond_false]at h;try simp only[rnA,Nat.reduceEqDiff,Nat.reduceLT,Nat.reduceAdd,Nat.reduceLeDiff]
  replace h:=qaa h; subst h;exact zfD.ret rfl (Snp.zb7 (.cons (.za8 (.cons (zah (eI .i64)) (.cons (zah (eI .i64)) (.cons (zah (eI .i64)) .nil)))) (.cons (.lit _) .nil)))
 rw[c43,cond_true]at h;try simp only[rnA,Nat.reduceEqDiff,Nat.reduceLT,Nat.reduceAdd,Nat.reduceLeDiff]
 replace h:=qaa h; subst h;exact zfD.ret rfl (Snp.zb7 (.cons (.za8 (.cons (zad _ _ (fun h=>nomatch h)) (.cons (zaj (e:=(eI .i64)) (t:=true) rfl (.inl rfl) (el3).symm (el3).symm (fun k h=>by cases h; exact qae _) (fun h=>nomatch h)) (.cons (zaj (e:=(eI .i64)) (t:=true) rfl (.inl rfl) (el4).symm (el4).symm (fun k h=>by cases h; exact qae _) (fun h=>nomatch h)) .nil)))) (.cons (.lit _) .nil)))
def zdw(p0:S_api_Factor)(p1:Int):Option (S_api_Factor×Int):=
(zcc p0).bind fun r1=>
bif (r1.2 == 0)then(
(zay r1.1 p1).bind fun r4=>
bif (decide (r4<0))then(
some ((S_api_Factor.mk [] [] []),4))
else(
(zeY 8 r1.1.factor.vars).bind fun y7=>
(zqV y7 r4 (w64 (r4+1))).bind fun y9=>
(zby r1.1 y9).bind fun r11=>
some (r11.1,r11.2)))
else(
some ((S_api_Factor.mk [] [] []),r1.2))
def zeZ:C:=
 .seq (rg [oW 3 0,
 oW 5 2,
 ⟨some 6,.alloc [(.slice none 0 0),(.slice none 0 0),(.slice none 0 0)],none⟩,
 oK 7 0])
 (.seq (rg [oN 12 3 3,
 oU 13 77 12,
 oM 11 13,
 oX 14 11 0,
 oX 15 11 1,
 ⟨some 8,.alloc [(.slice none 0 0),(.slice none 0 0),(.slice none 0 0),(.slice none 0 0)],none⟩,
 oS 4 8 14,
 oM 9 15])
 (.seq (.seq (rg [oM 16 9,
 oD 17 .neq 16 0])
 (.cond (.s 17) (.seq (rg [⟨some 18,.build [(.slice none 0 0),(.slice none 0 0),(.slice none 0 0)] [],none⟩,
 oM 19 9,
 oS 3 6 18,
 oM 7 19])
 (.ret))
 (.skip)))
 (.seq (rg [oN 20 4 8,
 oM 21 1,
 oV 22 90 20 21,
 oM 10 22])
 (.seq (.seq (rg [oM 23 10,
 oD 24 .lss 23 0])
 (.cond (.s 24) (.seq (rg [⟨some 25,.build [(.slice none 0 0),(.slice none 0 0),(.slice none 0 0)] [],none⟩,
 oS 3 6 25,
 oK 7 4])
 (.ret))
 (.skip)))
 (.seq (.reg true false [oN 26 4 8,
 oF 27 0 8,
 oF 28 0 27,
 oL 29 28,
 oM 31 10,
 oM 32 10,
 oD 33 .add 32 1,
 oN 35 1 5,
 oU 30 25 29,
 ⟨none,.avo [(.s 8),(.s 5)] (.s 30),none⟩,
 ⟨some 34,.call 91 [(.s 30),(.s 31),(.s 33)],none⟩,
 ⟨some 36,.call 78 [(.s 26),(.s 34),(.s 35)],none⟩,
 oX 37 36 0,
 oX 38 36 1,
 oS 3 6 37,
 oM 7 38])
 (.ret))))))
theorem zgw:zhM mC 88=some (39,zeZ,[.cell 6 (some 3),.tmp 7],false):=zbs (by kernel_rfl)
theorem zg2{p0:S_api_Factor}{p1:Int}{r:(S_api_Factor×Int)}(h:zdw p0 p1=some r):Lx.FnA mC 88 [(.agg [(fzE false (eI .i64) p0.vars),(fzE false (eI .i64) p0.cards),(fzE false (eI .i64) p0.w)]),(dI p1),(.agg [(.clo 79 [] [])])] (.tup [(.agg [(fzE false (eI .i64) r.1.vars),(fzE false (eI .i64) r.1.cards),(fzE false (eI .i64) r.1.w)]),(dI r.2)]):=by
 refine FnA.of zgw (zaZ rfl) (qac rfl) ?_;unfold zdw at h;simp only[zeZ,zlX];refine zaa ?_;obtain⟨r1,g2,h⟩:=bind_some h;try simp only[rnA,Nat.reduceEqDiff,Nat.reduceLT,Nat.reduceAdd,Nat.reduceLeDiff,reduceCtorEq]
 refine EvL.fnS (zcW g2) rfl rfl (.cons (Mzs.agg (.cons (zal _ _ (fun h=>by cases h<;>contradiction)) (.cons (zal _ _ (fun h=>by cases h<;>contradiction)) (.cons (zal _ _ (fun h=>by cases h<;>contradiction)) .nil)))) .nil) ⟨⟨(zae _ _),(zae _ _),(zae _ _),qb1⟩,qb1⟩ ⟨⟨(zae _ _),(zae _ _),(zae _ _),(zae _ _),qb1⟩,qb1,qb1⟩ ?_;try simp only[rnA,Nat.reduceEqDiff,Nat.reduceLT,Nat.reduceAdd,Nat.reduceLeDiff,reduceCtorEq]
 cases c3:(r1.2 == 0)
 ·rw[c3,cond_false]at h;try simp only[rnA,Nat.reduceEqDiff,Nat.reduceLT,Nat.reduceAdd,Nat.reduceLeDiff,reduceCtorEq]
  replace h:=qaa h; subst h;exact zfD.ret rfl (Snp.zb7 (.cons (.za8 (.cons (zah (eI .i64)) (.cons (zah (eI .i64)) (.cons (zah (eI .i64)) .nil)))) (.cons (.lit _) .nil)))
 rw[c3,cond_true]at h;obtain⟨r4,g5,h⟩:=bind_some h;try simp only[rnA,Nat.reduceEqDiff,Nat.reduceLT,Nat.reduceAdd,Nat.reduceLeDiff,reduceCtorEq]
 refine EvL.fn (zaF g5) rfl rfl (.cons (.za8 (.cons (zad _ _ (fun h=>nomatch h)) (.cons (zad _ _ (fun h=>nomatch h)) (.cons (zad _ _ (fun h=>nomatch h)) (.cons (zad _ _ (fun h=>nomatch h)) .nil))))) (.cons (.lit _) .nil)) ?_;try simp only[rnA,Nat.reduceEqDiff,Nat.reduceLT,reduceCtorEq]
 cases c6:(decide (r4<0))
 ·rw[c6,cond_false]at h;obtain⟨y7,g8,h⟩:=bind_some h;try simp only[rnA,Nat.reduceEqDiff,Nat.reduceLT,Nat.reduceAdd,Nat.reduceLeDiff,reduceCtorEq]
  refine EvL.clone (t:=false) (zs:=r1.1.factor.vars) g8 rfl rfl ?_;obtain⟨y9,g10,h⟩:=bind_some h;try simp only[rnA,Nat.reduceEqDiff,Nat.reduceLT,Nat.reduceAdd,Nat.reduceBEq,reduceCtorEq]
  refine EvL.delete (zs:=y7) (t:=true) g10 rfl rfl rfl rfl rfl rfl ?_;refine EvL.zeH (S':=⟨39,[(6,(.ptr 2 0)),(26,(.agg [(fzE false (eI .i64) r1.1.factor.vars),(fzE false (eI .i64) r1.1.factor.cards),(fzE false (eI .i64) r1.1.factor.w),(fzE false (eI .i64) r1.1.steps)])),(34,(fzE true (eI .i64) y9)),(35,(.agg [(.clo 79 [] [])]))],[.gone,.gone,.cells [zaD,zaD,zaD]]⟩) (zaV.m0 [.d,.d,.k,.d,.f] rfl (msq (ms rfl ⟨qb1,qb1,qb1,qb1,qb1⟩ (mf rfl (zkv (xs:=y7) (ys:=y9) (t:=true) (zmn g10) rfl rfl rfl (fun _=>rfl)) (ms rfl ⟨⟨qb1,qb1⟩,qb1⟩ trivial)))) ⟨rfl,⟨rfl,⟨MB.cs ⟨qb1,qb1,qb1,qb1⟩,qb1⟩⟩⟩) (zaa ?_);obtain⟨r11,g12,h⟩:=bind_some h;try simp only[rnA]
  refine EvL.fnS (zcT g12) rfl rfl (.cons (Mzs.agg (.cons (zal _ _ (fun h=>by cases h<;>contradiction)) (.cons (zal _ _ (fun h=>by cases h<;>contradiction)) (.cons (zal _ _ (fun h=>by cases h<;>contradiction)) (.cons (zal _ _ (fun h=>by cases h<;>contradiction)) .nil))))) (.cons (zal _ _ (fun h=>by cases h<;>contradiction)) (.cons (Mzs.agg (.cons zmf .nil)) .nil))) ⟨⟨(zae _ _),(zae _ _),(zae _ _),(zae _ _),qb1⟩,(zae _ _),⟨⟨qb1,qb1⟩,qb1⟩,qb1⟩ ⟨⟨(zae _ _),(zae _ _),(zae _ _),qb1⟩,qb1,qb1⟩ ?_;try simp only[rnA,Nat.reduceEqDiff,Nat.reduceLT,Nat.reduceAdd,Nat.reduceLeDiff]
  replace h:=qaa h; subst h;exact zfD.ret rfl (Snp.zb7 (.cons (.za8 (.cons (zad _ _ (fun h=>nomatch h)) (.cons (zad _ _ (fun h=>nomatch h)) (.cons (zad _ _ (fun h=>nomatch h)) .nil)))) (.cons (.lit _) .nil)))
 rw[c6,cond_true]at h;try simp only[rnA,Nat.reduceEqDiff,Nat.reduceLT,Nat.reduceAdd,Nat.reduceLeDiff,reduceCtorEq]
 replace h:=qaa h; subst h;exact zfD.ret rfl (Snp.zb7 (.cons (.za8 (.cons (zah (eI .i64)) (.cons (zah (eI .i64)) (.cons (zah (eI .i64)) .nil)))) (.cons (.lit _) .nil)))
def zee(p0:S_api_Factor)(p1:Int):Option (S_api_Factor×Int):=
(zdw p0 p1).bind fun r1=>
some (r1.1,r1.2)
theorem zhL{p0:S_api_Factor}{p1:Int}{r:(S_api_Factor×Int)}(h:zee p0 p1=some r):Lx.FnA mC 33 [(.agg [(fzE false (eI .i64) p0.vars),(fzE false (eI .i64) p0.cards),(fzE false (eI .i64) p0.w)]),(dI p1)] (.tup [(.agg [(fzE false (eI .i64) r.1.vars),(fzE false (eI .i64) r.1.cards),(fzE false (eI .i64) r.1.w)]),(dI r.2)]):=by
 refine zqN (by conv=>lhs; cbv) ?_;unfold zee at h;refine zaa ?_;obtain⟨r1,g2,h⟩:=bind_some h;try simp only[rnA,Nat.reduceEqDiff,reduceIte,Nat.reduceLT,Nat.reduceAdd,Nat.reduceLeDiff,Nat.reduceMul,Nat.reduceSub,Int.reduceLE,Int.reduceLT,Int.reduceBEq,Nat.reduceBEq,reduceCtorEq,zar,zcP]
 refine EvL.fnS (zg2 g2) rfl rfl (.cons (Mzs.agg (.cons (zal _ _ (fun h=>by cases h<;>contradiction)) (.cons (zal _ _ (fun h=>by cases h<;>contradiction)) (.cons (zal _ _ (fun h=>by cases h<;>contradiction)) .nil)))) (.cons (.lit _) (.cons (Mzs.agg (.cons zmf .nil)) .nil))) ⟨⟨(zae _ _),(zae _ _),(zae _ _),qb1⟩,qb1,⟨⟨qb1,qb1⟩,qb1⟩,qb1⟩ ⟨⟨(zae _ _),(zae _ _),(zae _ _),qb1⟩,qb1,qb1⟩ ?_;try simp only[rnA,Nat.reduceEqDiff,reduceIte,Nat.reduceLT,Nat.reduceAdd,Nat.reduceLeDiff,Nat.reduceMul,Nat.reduceSub,Int.reduceLE,Int.reduceLT,Int.reduceBEq,Nat.reduceBEq,reduceCtorEq,zar]
 replace h:=qaa h; subst h;exact zfD.ret rfl (Snp.zb7 (.cons (.za8 (.cons (zad _ _ (fun h=>nomatch h)) (.cons (zad _ _ (fun h=>nomatch h)) (.cons (zad _ _ (fun h=>nomatch h)) .nil)))) (.cons (.lit _) .nil)))
def zbQ(p1:(List Int))(p0:S_factor_table):Nat→Int→(List Int)→Option (List Int)
 | 0,_,_=>none
 | n+1,v14,l1=>(
bif (decide (v14<(p1.length:Int)))then(
(za6 p1 v14).bind fun x4=>
(zay p0 x4).bind fun r6=>
((bif (decide (0≤r6))then(
(za6 p0.steps r6).bind fun x9=>
(za6 l1 v14).bind fun x11=>
(zgN l1 v14 x9).bind fun y13=>
some y13)
else(
some l1):Option (List Int))).bind fun l1'=>
zbQ p1 p0 n (w64 (v14+1)) l1')
else(
some l1))
def zbB(p0:S_factor_table)(p1:(List Int)):Option (List Int):=
(zeO 8 (p1.length:Int) 0).bind fun y1=>
((zbQ p1 p0 ((p1.length:Int) - 0+2:Int).toNat 0 y1:Option (List Int))).bind fun l1=>
some l1
theorem zcy{p0:S_factor_table}{p1:(List Int)}{r:(List Int)}(h:zbB p0 p1=some r):Lx.Fn mC 85 [(.agg [(fzE false (eI .i64) p0.factor.vars),(fzE false (eI .i64) p0.factor.cards),(fzE false (eI .i64) p0.factor.w),(fzE false (eI .i64) p0.steps)]),(fzE false (eI .i64) p1)] (fzE true (eI .i64) r):=by
 refine fnO (by conv=>lhs; cbv) ?_;unfold zbB at h;refine zaa ?_;obtain⟨y1,g2,h⟩:=bind_some h;try simp only[rnA,Nat.reduceEqDiff,Nat.reduceLT,Nat.reduceAdd,reduceCtorEq,zam,(zau g2).1.1,(zau g2).1.2,qa1,(show List.replicate (Int.toNat (p1.length:Int)) [(dI 0)]=y1.map ((eI .i64).c true)from zbD g2 ((eI .i64).c true))]
 obtain⟨o4,j4,h⟩:=bind_some h;obtain⟨T4,hT4⟩:=mkT fun a:(List Int)=>⟨34,[(5,(.sl 1 0 1 (Int.toNat (p1.length:Int)) (some (Int.toNat (p1.length:Int))) (Int.toNat (p1.length:Int))))],[.gone,.els 1 (a.map ((eI .i64).c true))]⟩
 refine EvL.jn T4 (fun a=>a=o4∧a.length=(Int.toNat (p1.length:Int))) ?_ ?_
 ·refine zaa ?_;simp only[rnA];obtain⟨T7,hT7⟩:=mkT fun a:(Int×(List Int))=>⟨34,[(2,(.ptr 0 0)),(5,(.sl 1 0 1 (Int.toNat (p1.length:Int)) (some (Int.toNat (p1.length:Int))) (Int.toNat (p1.length:Int)))),(12,(fzE false (eI .i64) p1)),(13,(dI (p1.length:Int))),(14,(dI a.1))],[.cells [(fzE false (eI .i64) p0.factor.vars),(fzE false (eI .i64) p0.factor.cards),(fzE false (eI .i64) p0.factor.w),(fzE false (eI .i64) p0.steps)],.els 1 (a.2.map ((eI .i64).c true))]⟩
  refine EvL.rounds (α:=(Int×(List Int))) T7 (fun n a=>zbQ p1 p0 n a.1 a.2=some o4∧a.2.length=(Int.toNat (p1.length:Int))) ((p1.length:Int) - 0+2:Int).toNat (0,y1) (by rw[hT7]; exact wm0 [.k,.k] ⟨MB.cs ⟨qb1,qb1,qb1,qb1,qb1⟩,⟨MB.es (eI .i64) true y1,qb1⟩⟩) ⟨j4,zaN g2⟩ (fun _ h=>nomatch (show(none:Option (List Int))=some o4 from h.1)) ?_;rintro n ⟨v14,l1⟩ ⟨j4,el1⟩;simp only[zbQ]at j4;rw[congrFun hT7 (v14,l1)];refine zaa ?_;try simp only[rnA,Nat.reduceEqDiff,Nat.reduceLT]
  cases c3:(decide (v14<(p1.length:Int)))
  ·rw[c3,cond_false]at j4;try simp only[rnA]
   replace j4:=qaa j4; subst j4;exact⟨_,⟨rfl,el1⟩,by rw[hT4]; exact wm0 [.d,.k] ⟨rfl,⟨MB.es (eI .i64) true l1,qb1⟩⟩⟩
  rw[c3,cond_true]at j4;obtain⟨x4,g5,j4⟩:=bind_some j4;obtain⟨r6,g7,j4⟩:=bind_some j4;try simp only[rnA,Nat.reduceEqDiff,Nat.reduceLT,Nat.reduceAdd,Nat.reduceLeDiff,zak (n:=1) (e:=(eI .i64)) rfl g5]
  refine EvL.fn (zaF g7) rfl rfl (.cons (.za8 (.cons (zad _ _ (fun h=>nomatch h)) (.cons (zad _ _ (fun h=>nomatch h)) (.cons (zad _ _ (fun h=>nomatch h)) (.cons (zad _ _ (fun h=>nomatch h)) .nil))))) (.cons (.lit _) .nil)) ?_;try simp only[rnA,Nat.reduceEqDiff,Nat.reduceLT]
  obtain⟨o8,j8,j4⟩:=bind_some j4;obtain⟨T8,hT8⟩:=mkT fun a:(List Int)=>⟨34,[(2,(.ptr 0 0)),(5,(.sl 1 0 1 (Int.toNat (p1.length:Int)) (some (Int.toNat (p1.length:Int))) (Int.toNat (p1.length:Int)))),(12,(fzE false (eI .i64) p1)),(13,(dI (p1.length:Int))),(14,(dI v14))],[.cells [(fzE false (eI .i64) p0.factor.vars),(fzE false (eI .i64) p0.factor.cards),(fzE false (eI .i64) p0.factor.w),(fzE false (eI .i64) p0.steps)],.els 1 (a.map ((eI .i64).c true))]⟩
  refine EvL.jn T8 (fun a=>a=o8∧a.length=(Int.toNat (p1.length:Int))) ?_ ?_
  ·refine zaa ?_;try simp only[rnA,Nat.reduceEqDiff]
   cases c8:(decide (0≤r6))
   ·rw[c8,cond_false]at j8;try simp only[rnA]
    replace j8:=qaa j8; subst j8;exact⟨_,⟨rfl,el1⟩,by rw[hT8]; exact wm0 [.k,.k] ⟨MB.cs ⟨qb1,qb1,qb1,qb1,qb1⟩,⟨MB.es (eI .i64) true l1,qb1⟩⟩⟩
   rw[c8,cond_true]at j8;obtain⟨x9,g10,j8⟩:=bind_some j8;obtain⟨x11,g12,j8⟩:=bind_some j8;obtain⟨y13,g14,j8⟩:=bind_some j8;try simp only[rnA,Nat.reduceEqDiff,Nat.reduceLT,Nat.reduceLeDiff,zak (n:=1) (e:=(eI .i64)) rfl g10,el1,za3 g12,(show v14<(((Int.toNat (p1.length:Int)):Nat):Int)from el1 ▸ zaY g12),zaB g12 ((eI .i64).c true),(show(l1.map ((eI .i64).c true)).set v14.toNat [(dI x9)]=y13.map ((eI .i64).c true)from za2 g14 ((eI .i64).c true))]
   replace j8:=qaa j8; subst j8;exact⟨_,⟨rfl,(zaR g14).trans el1⟩,by rw[hT8]; exact wm0 [.k,.k] ⟨MB.cs ⟨qb1,qb1,qb1,qb1,qb1⟩,⟨MB.es (eI .i64) true y13,qb1⟩⟩⟩
  rintro l1' ⟨rfl,el1'⟩;rw[congrFun hT8 l1'];refine zaa ?_;try simp only[rnA,Nat.reduceEqDiff,Nat.reduceLT]
  exact⟨((w64 (v14+1)),l1'),⟨j4,el1'⟩,by rw[hT7]; exact wm0 [.k,.k] ⟨MB.cs ⟨qb1,qb1,qb1,qb1,qb1⟩,⟨MB.es (eI .i64) true l1',qb1⟩⟩⟩
 rintro l1 ⟨rfl,el1⟩;rw[congrFun hT4 l1];refine zaa ?_;try simp only[rnA,Nat.reduceEqDiff,Nat.reduceLT]
 replace h:=qaa h; subst h;exact za0.ret rfl (zaj (e:=(eI .i64)) (t:=true) rfl (.inl rfl) (el1).symm (el1).symm (fun k h=>by cases h; exact qae _) (fun _=>rfl))
def zf0(p0:Int)(p1:Int):Option (Int×Int):=
(zl2 .u64 p0 32).bind fun q1=>
(zl2 .u64 p1 32).bind fun q3=>
(zl2 .u64 (IntKind.u64.wrap ((zi0 .u64 p0 4294967295)* (zi0 .u64 p1 4294967295))) 32).bind fun q5=>
(zl2 .u64 (IntKind.u64.wrap ((IntKind.u64.wrap (q1 * (zi0 .u64 p1 4294967295)))+q5)) 32).bind fun q7=>
(zl2 .u64 (IntKind.u64.wrap ((zi0 .u64 (IntKind.u64.wrap ((IntKind.u64.wrap (q1 * (zi0 .u64 p1 4294967295)))+q5)) 4294967295)+(IntKind.u64.wrap ((zi0 .u64 p0 4294967295)* q3)))) 32).bind fun q9=>
some ((IntKind.u64.wrap ((IntKind.u64.wrap ((IntKind.u64.wrap (q1 * q3))+q7))+q9)),(IntKind.u64.wrap (p0 * p1)))
theorem zkn{p0:Int}{p1:Int}{r:(Int×Int)}(h:zf0 p0 p1=some r):Lx.Fn mC 86 [(dU p0),(dU p1)] (.tup [(dU r.1),(dU r.2)]):=by
 refine fnO (by conv=>lhs; cbv) ?_;unfold zf0 at h;refine zaa ?_;obtain⟨q1,g2,h⟩:=bind_some h;obtain⟨q3,g4,h⟩:=bind_some h;obtain⟨q5,g6,h⟩:=bind_some h;obtain⟨q7,g8,h⟩:=bind_some h;obtain⟨q9,g10,h⟩:=bind_some h;try simp only[rnA,Nat.reduceEqDiff,reduceIte,Nat.reduceLT,Nat.reduceAdd,Nat.reduceLeDiff,Nat.reduceMul,Nat.reduceSub,Int.reduceLE,Int.reduceLT,Int.reduceBEq,Nat.reduceBEq,reduceCtorEq,(zaQ g2).1,(zaQ g2).2,(zaQ g4).1,(zaQ g4).2,(zaQ g6).1,(zaQ g6).2,(zaQ g8).1,(zaQ g8).2,(zaQ g10).1,(zaQ g10).2]
 replace h:=qaa h; subst h;exact za0.ret rfl (Snp.zb7 (.cons (.lit _) (.cons (.lit _) .nil)))
def zdd(r4:(S_factor_table×Int))(r12:(Int×Int)):List (Int×Int×(List Int))→(List Int)→Option (Out (List Int) (S_api_Factor×Int))
 | [],l6'=>some (.go l6')
 | y36 :: ys,l6'=>(
(za6 l6' y36.1).bind fun x37=>
(za6 r4.1.factor.w y36.2.1).bind fun x39=>
(zf0 (IntKind.u64.wrap x37) (IntKind.u64.wrap x39)).bind fun r41=>
((bif (r41.1 == 0)then(
some (decide (4611686018427387903<r41.2)))
else(
some true):Option Bool)).bind fun v102=>
bif v102 then(
some (.ret ((S_api_Factor.mk [] [] []),6)))
else(
(za6 l6' y36.1).bind fun x45=>
(zgN l6' y36.1 (w64 r41.2)).bind fun y47=>
zdd r4 r12 ys y47))
def zdf(r1:(S_factor_table×Int))(r12:(Int×Int)):List (Int×Int×(List Int))→(List Int)→Option (List Int)
 | [],l6=>some l6
 | y23 :: ys,l6=>(
(za6 r1.1.factor.w y23.2.1).bind fun x24=>
(za6 l6 y23.1).bind fun x26=>
(zgN l6 y23.1 x24).bind fun y28=>
zdf r1 r12 ys y28)
def zfZ(p0:S_api_Factor)(p1:S_api_Factor):Option (S_api_Factor×Int):=
(zcc p0).bind fun r1=>
bif (r1.2 == 0)then(
(zcc p1).bind fun r4=>
bif (r4.2 == 0)then(
(zeN r1.1 r4.1).bind fun r7=>
bif r7 then(
(zeL r1.1 r4.1).bind fun r10=>
(zet r10.2).bind fun r12=>
bif (r12.2 == 0)then(
(zeO 8 r12.1 0).bind fun y15=>
(zbB r1.1 r10.1).bind fun r17=>
(zcj r10.2 r17).bind fun r19=>
(zsU r19.1 r19.2).bind fun u21=>
((zdf r1 r12 u21 y15:Option (List Int))).bind fun l6=>
(zbB r4.1 r10.1).bind fun r30=>
(zcj r10.2 r30).bind fun r32=>
(zsU r32.1 r32.2).bind fun u34=>
((zdd r4 r12 u34 l6:Option (Out (List Int) (S_api_Factor×Int)))).bind fun o=>match o with
| .go l6'=>(
some ((S_api_Factor.mk r10.1 r10.2 l6'),0))
| .ret r=>some r)
else(
some ((S_api_Factor.mk [] [] []),3)))
else(
some ((S_api_Factor.mk [] [] []),2)))
else(
some ((S_api_Factor.mk [] [] []),r4.2)))
else(
some ((S_api_Factor.mk [] [] []),r1.2))
def zhC:C:=
 .seq (rg [oW 2 0,
 oW 3 1,
 ⟨some 4,.alloc [(.slice none 0 0),(.slice none 0 0),(.slice none 0 0)],none⟩,
 ⟨some 5,.alloc [(.int .i64 0)],none⟩])
 (.seq (rg [oN 20 3 2,
 oU 21 77 20,
 oM 19 21,
 oX 22 19 0,
 oX 23 19 1,
 ⟨some 6,.alloc [(.slice none 0 0),(.slice none 0 0),(.slice none 0 0),(.slice none 0 0)],none⟩,
 oS 4 6 22,
 oM 7 23])
 (.seq (.seq (rg [oM 24 7,
 oD 25 .neq 24 0])
 (.cond (.s 25) (.seq (rg [⟨some 26,.build [(.slice none 0 0),(.slice none 0 0),(.slice none 0 0)] [],none⟩,
 oM 27 7,
 oS 3 4 26,
 oS 1 5 27])
 (.ret))
 (.skip)))
 (.seq (rg [oN 29 3 3,
 oU 30 77 29,
 oM 28 30,
 oX 31 28 0,
 oX 32 28 1,
 ⟨some 8,.alloc [(.slice none 0 0),(.slice none 0 0),(.slice none 0 0),(.slice none 0 0)],none⟩,
 oS 4 8 31,
 oM 7 32])
 (.seq (.seq (rg [oM 33 7,
 oD 34 .neq 33 0])
 (.cond (.s 34) (.seq (rg [⟨some 35,.build [(.slice none 0 0),(.slice none 0 0),(.slice none 0 0)] [],none⟩,
 oM 36 7,
 oS 3 4 35,
 oS 1 5 36])
 (.ret))
 (.skip)))
 (.seq (.seq (rg [oN 37 4 6,
 oN 38 4 8,
 oV 39 81 37 38,
 ⟨some 40,.un .not (.s 39),none⟩])
 (.cond (.s 40) (.seq (rg [⟨some 41,.build [(.slice none 0 0),(.slice none 0 0),(.slice none 0 0)] [],none⟩,
 oS 3 4 41,
 ⟨none,.store 1 (.s 5) (.c (.int .i64 2)),none⟩])
 (.ret))
 (.skip)))
 (.seq (rg [oN 43 4 6,
 oN 44 4 8,
 oV 45 82 43 44,
 oM 42 45,
 oX 46 42 0,
 oX 47 42 1,
 oM 9 46,
 oM 10 47])
 (.seq (rg [oM 49 10,
 oU 50 83 49,
 oM 48 50,
 oX 51 48 0,
 oX 52 48 1,
 oM 11 51,
 oM 7 52])
 (.seq (.seq (rg [oM 53 7,
 oD 54 .neq 53 0])
 (.cond (.s 54) (.seq (rg [⟨some 55,.build [(.slice none 0 0),(.slice none 0 0),(.slice none 0 0)] [],none⟩,
 oS 3 4 55,
 ⟨none,.store 1 (.s 5) (.c (.int .i64 3)),none⟩])
 (.ret))
 (.skip)))
 (.seq (rg [oM 56 11,
 ⟨some 57,.mk 1 8 [(.int .i64 0)] (.s 56) (.s 56),none⟩,
 ⟨some 12,.alloc [(.slice none 0 0)],none⟩,
 oS 1 12 57])
 (.seq (.seq (rg [oM 58 10,
 oN 59 4 6,
 oM 60 9,
 oV 61 85 59 60,
 oV 62 84 58 61])
 (.block 0 (.zem (.s 62) [63,64] (.seq (rg [oM 13 63])
 (rg [oM 14 64]))
 (.block 1 (.reg true false [oL 65 12,
 oM 66 13,
 oF 67 0 6,
 oF 68 2 67,
 oL 69 68,
 oM 70 14,
 oI 71 1 69 70,
 oL 72 71,
 oI 73 1 65 66,
 oS 1 73 72])))))
 (.seq (.seq (rg [oM 74 10,
 oN 75 4 8,
 oM 76 9,
 oV 77 85 75 76,
 oV 78 84 74 77])
 (.block 2 (.zem (.s 78) [79,80] (.seq (rg [oM 15 79])
 (rg [oM 16 80]))
 (.block 3 (.seq (.reg true false [oL 82 12,
 oM 83 15,
 oI 84 1 82 83,
 oL 85 84,
 ⟨some 86,.conv .u64 (.s 85),none⟩,
 oF 87 0 8,
 oF 88 2 87,
 oL 89 88,
 oM 90 16,
 oI 91 1 89 90,
 oL 92 91,
 ⟨some 93,.conv .u64 (.s 92),none⟩,
 oV 94 86 86 93,
 oM 81 94,
 oX 95 81 0,
 oX 96 81 1,
 oM 17 95,
 oM 18 96])
 (.seq (.seq (rg [oM 97 17,
 oDu 98 .neq 97 0,
 oM 99 98,
 oMg 100 18 99 false,
 ⟨some 101,.bin .gtr (.s 100) (.c (.int .u64 4611686018427387903)),some (99,false)⟩,
 oP 102 99 101])
 (.cond (.s 102) (.seq (rg [⟨some 103,.build [(.slice none 0 0),(.slice none 0 0),(.slice none 0 0)] [],none⟩,
 oS 3 4 103,
 ⟨none,.store 1 (.s 5) (.c (.int .i64 6)),none⟩])
 (.ret))
 (.skip)))
 (rg [oL 104 12,
 oM 105 15,
 oM 106 18,
 ⟨some 107,.conv .i64 (.s 106),none⟩,
 oI 108 1 104 105,
 oS 1 108 107])))))))
 (.seq (rg [oM 109 9,
 oM 110 10,
 oL 111 12,
 ⟨some 112,.build [(.slice none 0 0),(.slice none 0 0),(.slice none 0 0)] [(0,1,(.s 109)),(1,1,(.s 110)),(2,1,(.s 111))],none⟩,
 oS 3 4 112,
 ⟨none,.store 1 (.s 5) (.c (.int .i64 0)),none⟩])
 (.ret)))))))))))))
theorem zi4:zhM mC 31=some (113,zhC,[.cell 4 (some 3),.cell 5 none],false):=zbs (by kernel_rfl)
theorem zkD{p0:S_api_Factor}{p1:S_api_Factor}{r:(S_api_Factor×Int)}(h:zfZ p0 p1=some r):Lx.Fn mC 31 [(.agg [(fzE false (eI .i64) p0.vars),(fzE false (eI .i64) p0.cards),(fzE false (eI .i64) p0.w)]),(.agg [(fzE false (eI .i64) p1.vars),(fzE false (eI .i64) p1.cards),(fzE false (eI .i64) p1.w)])] (.tup [(.agg [(fzE true (eI .i64) r.1.vars),(fzE true (eI .i64) r.1.cards),(fzE true (eI .i64) r.1.w)]),(dI r.2)]):=by
 refine Fn.of zi4 (zaZ rfl) (qac rfl) ?_;unfold zfZ at h;simp only[zhC,zlX];refine zaa ?_;obtain⟨r1,g2,h⟩:=bind_some h;try simp only[rnA,Nat.reduceEqDiff,Nat.reduceLT,Nat.reduceAdd,Nat.reduceLeDiff,reduceCtorEq]
 refine EvL.fnS (zcW g2) rfl rfl (.cons (Mzs.agg (.cons (zal _ _ (fun h=>by cases h<;>contradiction)) (.cons (zal _ _ (fun h=>by cases h<;>contradiction)) (.cons (zal _ _ (fun h=>by cases h<;>contradiction)) .nil)))) .nil) ⟨⟨(zae _ _),(zae _ _),(zae _ _),qb1⟩,qb1⟩ ⟨⟨(zae _ _),(zae _ _),(zae _ _),(zae _ _),qb1⟩,qb1,qb1⟩ ?_;try simp only[rnA,Nat.reduceEqDiff,Nat.reduceLT,Nat.reduceAdd,Nat.reduceLeDiff,reduceCtorEq]
 cases c3:(r1.2 == 0)
 ·rw[c3,cond_false]at h;try simp only[rnA,Nat.reduceEqDiff,Nat.reduceLT,Nat.reduceAdd,Nat.reduceLeDiff,reduceCtorEq]
  replace h:=qaa h; subst h;exact za0.ret rfl (Snp.zb7 (.cons (.za8 (.cons (zah (eI .i64)) (.cons (zah (eI .i64)) (.cons (zah (eI .i64)) .nil)))) (.cons (.lit _) .nil)))
 rw[c3,cond_true]at h;obtain⟨r4,g5,h⟩:=bind_some h;try simp only[rnA,Nat.reduceEqDiff,Nat.reduceLT,Nat.reduceAdd,Nat.reduceLeDiff,reduceCtorEq]
 refine EvL.fnS (zcW g5) rfl rfl (.cons (Mzs.agg (.cons (zal _ _ (fun h=>by cases h<;>contradiction)) (.cons (zal _ _ (fun h=>by cases h<;>contradiction)) (.cons (zal _ _ (fun h=>by cases h<;>contradiction)) .nil)))) .nil) ⟨⟨(zae _ _),(zae _ _),(zae _ _),qb1⟩,qb1⟩ ⟨⟨(zae _ _),(zae _ _),(zae _ _),(zae _ _),qb1⟩,qb1,qb1⟩ ?_;try simp only[rnA,Nat.reduceEqDiff,Nat.reduceLT,Nat.reduceAdd,Nat.reduceLeDiff,reduceCtorEq]
 cases c6:(r4.2 == 0)
 ·rw[c6,cond_false]at h;try simp only[rnA,Nat.reduceEqDiff,Nat.reduceLT,Nat.reduceAdd,Nat.reduceLeDiff,reduceCtorEq]
  replace h:=qaa h; subst h;exact za0.ret rfl (Snp.zb7 (.cons (.za8 (.cons (zah (eI .i64)) (.cons (zah (eI .i64)) (.cons (zah (eI .i64)) .nil)))) (.cons (.lit _) .nil)))
 rw[c6,cond_true]at h;obtain⟨r7,g8,h⟩:=bind_some h;try simp only[rnA,Nat.reduceEqDiff,Nat.reduceLT,Nat.reduceAdd,Nat.reduceLeDiff,reduceCtorEq]
 refine EvL.fn (ziP g8) rfl rfl (.cons (.za8 (.cons (zad _ _ (fun h=>nomatch h)) (.cons (zad _ _ (fun h=>nomatch h)) (.cons (zad _ _ (fun h=>nomatch h)) (.cons (zad _ _ (fun h=>nomatch h)) .nil))))) (.cons (.za8 (.cons (zad _ _ (fun h=>nomatch h)) (.cons (zad _ _ (fun h=>nomatch h)) (.cons (zad _ _ (fun h=>nomatch h)) (.cons (zad _ _ (fun h=>nomatch h)) .nil))))) .nil)) ?_;try simp only[rnA,Nat.reduceEqDiff,Nat.reduceLT,reduceCtorEq]
 cases c9:r7
 ·rw[c9,cond_false]at h;try simp only[rnA,Nat.reduceEqDiff,Nat.reduceLT,Nat.reduceAdd,Nat.reduceLeDiff,reduceCtorEq]
  replace h:=qaa h; subst h;exact za0.ret rfl (Snp.zb7 (.cons (.za8 (.cons (zah (eI .i64)) (.cons (zah (eI .i64)) (.cons (zah (eI .i64)) .nil)))) (.cons (.lit _) .nil)))
 rw[c9,cond_true]at h;obtain⟨r10,g11,h⟩:=bind_some h;try simp only[rnA,Nat.reduceEqDiff,Nat.reduceLT,Nat.reduceAdd,Nat.reduceLeDiff,reduceCtorEq]
 refine EvL.fn (zh4 g11) rfl rfl (.cons (.za8 (.cons (zad _ _ (fun h=>nomatch h)) (.cons (zad _ _ (fun h=>nomatch h)) (.cons (zad _ _ (fun h=>nomatch h)) (.cons (zad _ _ (fun h=>nomatch h)) .nil))))) (.cons (.za8 (.cons (zad _ _ (fun h=>nomatch h)) (.cons (zad _ _ (fun h=>nomatch h)) (.cons (zad _ _ (fun h=>nomatch h)) (.cons (zad _ _ (fun h=>nomatch h)) .nil))))) .nil)) ?_;obtain⟨r12,g13,h⟩:=bind_some h;try simp only[rnA,Nat.reduceEqDiff,Nat.reduceLT,reduceCtorEq]
 refine EvL.fn (zgO g13) rfl rfl (.cons (zad _ _ (fun h=>nomatch h)) .nil) ?_;try simp only[rnA,Nat.reduceEqDiff,Nat.reduceLT,reduceCtorEq]
 cases c14:(r12.2 == 0)
 ·rw[c14,cond_false]at h;try simp only[rnA,Nat.reduceEqDiff,Nat.reduceLT,Nat.reduceAdd,Nat.reduceLeDiff,reduceCtorEq]
  replace h:=qaa h; subst h;exact za0.ret rfl (Snp.zb7 (.cons (.za8 (.cons (zah (eI .i64)) (.cons (zah (eI .i64)) (.cons (zah (eI .i64)) .nil)))) (.cons (.lit _) .nil)))
 rw[c14,cond_true]at h;obtain⟨y15,g16,h⟩:=bind_some h;obtain⟨r17,g18,h⟩:=bind_some h;try simp only[rnA,Nat.reduceEqDiff,Nat.reduceLT,Nat.reduceAdd,Nat.reduceLeDiff,reduceCtorEq,(zau g16).1.1,(zau g16).1.2,qa1,(show List.replicate (Int.toNat r12.1) [(dI 0)]=y15.map ((eI .i64).c true)from zbD g16 ((eI .i64).c true))]
 refine EvL.fn (zcy g18) rfl rfl (.cons (.za8 (.cons (zad _ _ (fun h=>nomatch h)) (.cons (zad _ _ (fun h=>nomatch h)) (.cons (zad _ _ (fun h=>nomatch h)) (.cons (zad _ _ (fun h=>nomatch h)) .nil))))) (.cons (zad _ _ (fun h=>nomatch h)) .nil)) ?_;obtain⟨r19,g20,h⟩:=bind_some h;try simp only[rnA,Nat.reduceLT]
 refine EvL.fnS (zcF g20) rfl rfl (.cons (zal _ _ (fun h=>by cases h<;>contradiction)) (.cons (zal _ _ (fun h=>by cases h<;>contradiction)) .nil)) ⟨(zae _ _),(zae _ _),qb1⟩ ⟨qb1,⟨⟨rfl,zae _ _,qb1⟩,⟨rfl,zae _ _,qb1⟩,qb1⟩⟩ ?_;try simp only[rnA,Nat.reduceLT]
 obtain⟨u21,g22,h⟩:=bind_some h;obtain⟨o1,j1,h⟩:=bind_some h;obtain⟨T1,hT1⟩:∃ T:(List Int)→List LB,T=(fun a=>[.cells [(fzE false (eI .i64) p0.vars),(fzE false (eI .i64) p0.cards),(fzE false (eI .i64) p0.w)],.cells [(fzE false (eI .i64) p1.vars),(fzE false (eI .i64) p1.cards),(fzE false (eI .i64) p1.w)],.cells [zaD,zaD,zaD],.cells [(dI 0)],.cells [(fzE false (eI .i64) r1.1.factor.vars),(fzE false (eI .i64) r1.1.factor.cards),(fzE false (eI .i64) r1.1.factor.w),(fzE false (eI .i64) r1.1.steps)],.cells [(fzE false (eI .i64) r4.1.factor.vars),(fzE false (eI .i64) r4.1.factor.cards),(fzE false (eI .i64) r4.1.factor.w),(fzE false (eI .i64) r4.1.steps)],.els 1 (a.map ((eI .i64).c true)),.cells [(.sl 6 0 1 (Int.toNat r12.1) (some (Int.toNat r12.1)) (Int.toNat r12.1))]]):=⟨_,rfl⟩;refine EvL.zeH (S':=⟨113,[(4,(.ptr 2 0)),(5,(.ptr 3 0)),(6,(.ptr 4 0)),(8,(.ptr 5 0)),(9,(fzE true (eI .i64) r10.1)),(10,(fzE true (eI .i64) r10.2)),(12,(.ptr 7 0)),(62,(.clo 120 [] [(.fptr false ((eL (eI .i64)).c false r19.1)),(.fptr false ((eL (eI .i64)).c false r19.2))]))],T1 y15⟩) (by rw[hT1]; exact wm0 [.k,.k,.k,.k,.k,.k,.k,.k] ⟨MB.cs ⟨qb1,qb1,qb1,qb1⟩,⟨MB.cs ⟨qb1,qb1,qb1,qb1⟩,⟨MB.cs ⟨qb1,qb1,qb1,qb1⟩,⟨MB.cs ⟨qb1,qb1⟩,⟨MB.cs ⟨qb1,qb1,qb1,qb1,qb1⟩,⟨MB.cs ⟨qb1,qb1,qb1,qb1,qb1⟩,⟨MB.es (eI .i64) true y15,⟨MB.cs ⟨rfl,qb1⟩,qb1⟩⟩⟩⟩⟩⟩⟩⟩) ?_;refine EvL.ziJ (n0:=8) (zcx g22) rfl (bm:=.block 1 (.reg true false [⟨some 65,.load none (.s 12),none⟩,⟨some 66,.mov (.s 13),none⟩,⟨some 67,.fld 0 (.s 6),none⟩,⟨some 68,.fld 2 (.s 67),none⟩,⟨some 69,.load none (.s 68),none⟩,⟨some 70,.mov (.s 14),none⟩,⟨some 71,.idxS 1 (.s 69) (.s 70),none⟩,⟨some 72,.load none (.s 71),none⟩,⟨some 73,.idxS 1 (.s 65) (.s 66),none⟩,⟨none,.store 1 (.s 73) (.s 72),none⟩])) rfl T1 (fun i a=>zdf r1 r12 (u21.drop i) a=some o1∧a.length=(Int.toNat r12.1)) (fun x L1=>match x with | .normal=>∃ a,o1=a∧a.length=(Int.toNat r12.1)∧L1=T1 a | .ret=>L1.length=8∧zcH (8+1) L1∧(za0 [.cell 4 (some 3),.cell 5 none] ((.tup [(.agg [(fzE true (eI .i64) r.1.vars),(fzE true (eI .i64) r.1.cards),(fzE true (eI .i64) r.1.w)]),(dI r.2)]))) .ret ⟨113,[(4,(.ptr 2 0)),(5,(.ptr 3 0)),(6,(.ptr 4 0)),(8,(.ptr 5 0)),(9,(fzE true (eI .i64) r10.1)),(10,(fzE true (eI .i64) r10.2)),(12,(.ptr 7 0)),(62,(.clo 120 [] [(.fptr false ((eL (eI .i64)).c false r19.1)),(.fptr false ((eL (eI .i64)).c false r19.2))]))],L1 ++ [.lost]⟩| _=>False) y15 ?_ (qbn _) ?_ ?_ ?_ (fun d L1 hx=>hx.elim) ?_ ?_ ?_ ?_ ?_ ?_
 ·intro a; rw[hT1]; rfl
 ·exact⟨(qac rfl),(qac rfl),(qac rfl),(qac rfl),qb1,qb1,(qac rfl),⟨qb1,⟨qb1,qb1,qb1⟩⟩,qb1⟩
 ·intro a; rw[hT1]; exact⟨⟨qb1,qb1,qb1,qb1⟩,⟨qb1,qb1,qb1,qb1⟩,⟨qb1,qb1,qb1,qb1⟩,⟨qb1,qb1⟩,⟨qb1,qb1,qb1,qb1,qb1⟩,⟨qb1,qb1,qb1,qb1,qb1⟩,(zdg (eI .i64) _ _ _),⟨(qac rfl),qb1⟩,qb1⟩
 ·intro x L1 hx;cases x with
  | normal=>obtain⟨a,_,_,rfl⟩:=hx; exact⟨by rw[hT1]; rfl,by rw[hT1]; exact⟨⟨qb1,qb1,qb1,qb1⟩,⟨qb1,qb1,qb1,qb1⟩,⟨qb1,qb1,qb1,qb1⟩,⟨qb1,qb1⟩,⟨qb1,qb1,qb1,qb1,qb1⟩,⟨qb1,qb1,qb1,qb1,qb1⟩,(zdg (eI .i64) _ _ _),⟨(qac rfl),qb1⟩,qb1⟩⟩
  | ret=>exact⟨hx.1,hx.2.1⟩
  | exit id=>exact hx.elim
  | panic d=>exact hx.elim
 ·exact⟨j1,zaN g16⟩
 ·rintro i l6 y23 args G lpF hy ⟨hi1,el6⟩ ⟨rfl,rfl⟩ hkin;rw[zes hy]at hi1;simp only[zdf]at hi1;refine⟨_,_,rfl,rfl,?_⟩;rw[congrFun hT1 l6];refine zaa ?_;obtain⟨x24,g25,hi1⟩:=bind_some hi1;obtain⟨x26,g27,hi1⟩:=bind_some hi1;obtain⟨y28,g29,hi1⟩:=bind_some hi1;try simp only[rnA,Nat.reduceEqDiff,Nat.reduceLT,Nat.reduceAdd,Nat.reduceLeDiff,zak (n:=1) (e:=(eI .i64)) rfl g25,el6,za3 g27,(show y23.1<(((Int.toNat r12.1):Nat):Int)from el6 ▸ zaY g27),zaB g27 ((eI .i64).c true),(show(l6.map ((eI .i64).c true)).set y23.1.toNat [(dI x24)]=y28.map ((eI .i64).c true)from za2 g29 ((eI .i64).c true))]
  exact⟨T1 y28,by rw[hT1]; rfl,by rw[hT1]; exact zaV.mK [.k,.k,.k,.k,.k,.k,.k,.k,.k,.k] rfl rfl qb1 ⟨MB.cs ⟨qb1,qb1,qb1,qb1⟩,⟨MB.cs ⟨qb1,qb1,qb1,qb1⟩,⟨MB.cs ⟨qb1,qb1,qb1,qb1⟩,⟨MB.cs ⟨qb1,qb1⟩,⟨MB.cs ⟨qb1,qb1,qb1,qb1,qb1⟩,⟨MB.cs ⟨qb1,qb1,qb1,qb1,qb1⟩,⟨MB.es (eI .i64) true y28,⟨MB.cs ⟨rfl,qb1⟩,⟨.same (hkin _ (by decide)),⟨MB.same (zeP _ _ _ _),qb1⟩⟩⟩⟩⟩⟩⟩⟩⟩⟩,y28,⟨hi1,(zaR g29).trans el6⟩,rfl⟩
 ·rintro l6 ⟨hi1,el6⟩;rw[qbi]at hi1;simp only[zdf]at hi1;exact⟨l6,(qaa hi1).symm,el6,rfl⟩
 ·rintro _ ⟨l6,oeq,el6,rfl⟩;have oeq2:=oeq.symm;subst oeq2;rw[congrFun hT1 l6];refine zaa ?_;obtain⟨r30,g31,h⟩:=bind_some h;try simp only[rnA,Nat.reduceEqDiff,Nat.reduceLT,Nat.reduceAdd,Nat.reduceLeDiff]
  refine EvL.fn (zcy g31) rfl rfl (.cons (.za8 (.cons (zad _ _ (fun h=>nomatch h)) (.cons (zad _ _ (fun h=>nomatch h)) (.cons (zad _ _ (fun h=>nomatch h)) (.cons (zad _ _ (fun h=>nomatch h)) .nil))))) (.cons (zad _ _ (fun h=>nomatch h)) .nil)) ?_;obtain⟨r32,g33,h⟩:=bind_some h;try simp only[rnA,Nat.reduceLT]
  refine EvL.fnS (zcF g33) rfl rfl (.cons (zal _ _ (fun h=>by cases h<;>contradiction)) (.cons (zal _ _ (fun h=>by cases h<;>contradiction)) .nil)) ⟨(zae _ _),(zae _ _),qb1⟩ ⟨qb1,⟨⟨rfl,zae _ _,qb1⟩,⟨rfl,zae _ _,qb1⟩,qb1⟩⟩ ?_;try simp only[rnA,Nat.reduceLT]
  obtain⟨u34,g35,h⟩:=bind_some h;obtain⟨o4,j4,h⟩:=bind_some h;obtain⟨T4,hT4⟩:∃ T:(List Int)→List LB,T=(fun a=>[.cells [(fzE false (eI .i64) p0.vars),(fzE false (eI .i64) p0.cards),(fzE false (eI .i64) p0.w)],.cells [(fzE false (eI .i64) p1.vars),(fzE false (eI .i64) p1.cards),(fzE false (eI .i64) p1.w)],.cells [zaD,zaD,zaD],.cells [(dI 0)],.cells [(fzE false (eI .i64) r1.1.factor.vars),(fzE false (eI .i64) r1.1.factor.cards),(fzE false (eI .i64) r1.1.factor.w),(fzE false (eI .i64) r1.1.steps)],.cells [(fzE false (eI .i64) r4.1.factor.vars),(fzE false (eI .i64) r4.1.factor.cards),(fzE false (eI .i64) r4.1.factor.w),(fzE false (eI .i64) r4.1.steps)],.els 1 (a.map ((eI .i64).c true)),.cells [(.sl 6 0 1 (Int.toNat r12.1) (some (Int.toNat r12.1)) (Int.toNat r12.1))],.lost]):=⟨_,rfl⟩;refine EvL.zeH (S':=⟨113,[(4,(.ptr 2 0)),(5,(.ptr 3 0)),(8,(.ptr 5 0)),(9,(fzE true (eI .i64) r10.1)),(10,(fzE true (eI .i64) r10.2)),(12,(.ptr 7 0)),(78,(.clo 120 [] [(.fptr false ((eL (eI .i64)).c false r32.1)),(.fptr false ((eL (eI .i64)).c false r32.2))]))],T4 l6⟩) (by rw[hT4]; exact wm0 [.k,.k,.k,.k,.k,.k,.k,.k,.k] ⟨MB.cs ⟨qb1,qb1,qb1,qb1⟩,⟨MB.cs ⟨qb1,qb1,qb1,qb1⟩,⟨MB.cs ⟨qb1,qb1,qb1,qb1⟩,⟨MB.cs ⟨qb1,qb1⟩,⟨MB.cs ⟨qb1,qb1,qb1,qb1,qb1⟩,⟨MB.cs ⟨qb1,qb1,qb1,qb1,qb1⟩,⟨MB.es (eI .i64) true l6,⟨MB.cs ⟨rfl,qb1⟩,⟨MB.same trivial,qb1⟩⟩⟩⟩⟩⟩⟩⟩⟩) ?_;refine EvL.ziJ (n0:=9) (zcx g35) rfl (bm:=.block 3 (.seq (.reg true false [⟨some 82,.load none (.s 12),none⟩,⟨some 83,.mov (.s 15),none⟩,⟨some 84,.idxS 1 (.s 82) (.s 83),none⟩,⟨some 85,.load none (.s 84),none⟩,⟨some 86,.conv .u64 (.s 85),none⟩,⟨some 87,.fld 0 (.s 8),none⟩,⟨some 88,.fld 2 (.s 87),none⟩,⟨some 89,.load none (.s 88),none⟩,⟨some 90,.mov (.s 16),none⟩,⟨some 91,.idxS 1 (.s 89) (.s 90),none⟩,⟨some 92,.load none (.s 91),none⟩,⟨some 93,.conv .u64 (.s 92),none⟩,⟨some 94,.call 86 [(.s 86),(.s 93)],none⟩,⟨some 81,.mov (.s 94),none⟩,⟨some 95,.ext (.s 81) 0,none⟩,⟨some 96,.ext (.s 81) 1,none⟩,⟨some 17,.mov (.s 95),none⟩,⟨some 18,.mov (.s 96),none⟩]) (.seq (.seq (.scope (.reg false false [⟨some 97,.mov (.s 17),none⟩,⟨some 98,.bin .neq (.s 97) (.c (.int .u64 0)),none⟩,⟨some 99,.mov (.s 98),none⟩,⟨some 100,.mov (.s 18),some (99,false)⟩,⟨some 101,.bin .gtr (.s 100) (.c (.int .u64 4611686018427387903)),some (99,false)⟩,⟨some 102,.pick (.s 99) (.c (.bool true)) (.s 101),none⟩])) (.cond (.s 102) (.seq (.reg false false [⟨some 103,.build [(.slice none 0 0),(.slice none 0 0),(.slice none 0 0)] [],none⟩,⟨none,.store 3 (.s 4) (.s 103),none⟩,⟨none,.store 1 (.s 5) (.c (.int .i64 6)),none⟩]) (.ret)) (.skip))) (.reg false false [⟨some 104,.load none (.s 12),none⟩,⟨some 105,.mov (.s 15),none⟩,⟨some 106,.mov (.s 18),none⟩,⟨some 107,.conv .i64 (.s 106),none⟩,⟨some 108,.idxS 1 (.s 104) (.s 105),none⟩,⟨none,.store 1 (.s 108) (.s 107),none⟩])))) rfl T4 (fun i a=>zdd r4 r12 (u34.drop i) a=some o4∧a.length=(Int.toNat r12.1)) (fun x L1=>match x with | .normal=>∃ a,o4=.go a∧a.length=(Int.toNat r12.1)∧L1=T4 a | .ret=>L1.length=9∧zcH (9+1) L1∧(za0 [.cell 4 (some 3),.cell 5 none] ((.tup [(.agg [(fzE true (eI .i64) r.1.vars),(fzE true (eI .i64) r.1.cards),(fzE true (eI .i64) r.1.w)]),(dI r.2)]))) .ret ⟨113,[(4,(.ptr 2 0)),(5,(.ptr 3 0)),(8,(.ptr 5 0)),(9,(fzE true (eI .i64) r10.1)),(10,(fzE true (eI .i64) r10.2)),(12,(.ptr 7 0)),(78,(.clo 120 [] [(.fptr false ((eL (eI .i64)).c false r32.1)),(.fptr false ((eL (eI .i64)).c false r32.2))]))],L1 ++ [.lost]⟩| _=>False) l6 ?_ (qbn _) ?_ ?_ ?_ (fun d L1 hx=>hx.elim) ?_ ?_ ?_ ?_ ?_ ?_
  ·intro a; rw[hT4]; rfl
  ·exact⟨(qac rfl),(qac rfl),(qac rfl),qb1,qb1,(qac rfl),⟨qb1,⟨qb1,qb1,qb1⟩⟩,qb1⟩
  ·intro a; rw[hT4]; exact⟨⟨qb1,qb1,qb1,qb1⟩,⟨qb1,qb1,qb1,qb1⟩,⟨qb1,qb1,qb1,qb1⟩,⟨qb1,qb1⟩,⟨qb1,qb1,qb1,qb1,qb1⟩,⟨qb1,qb1,qb1,qb1,qb1⟩,(zdg (eI .i64) _ _ _),⟨(qac rfl),qb1⟩,qb1,qb1⟩
  ·intro x L1 hx;cases x with
   | normal=>obtain⟨a,_,_,rfl⟩:=hx; exact⟨by rw[hT4]; rfl,by rw[hT4]; exact⟨⟨qb1,qb1,qb1,qb1⟩,⟨qb1,qb1,qb1,qb1⟩,⟨qb1,qb1,qb1,qb1⟩,⟨qb1,qb1⟩,⟨qb1,qb1,qb1,qb1,qb1⟩,⟨qb1,qb1,qb1,qb1,qb1⟩,(zdg (eI .i64) _ _ _),⟨(qac rfl),qb1⟩,qb1,qb1⟩⟩
   | ret=>exact⟨hx.1,hx.2.1⟩
   | exit id=>exact hx.elim
   | panic d=>exact hx.elim
  ·exact⟨j4,el6⟩
  ·rintro i l6' y36 args G lpF hy ⟨hi4,el6'⟩ ⟨rfl,rfl⟩ hkin;rw[zes hy]at hi4;simp only[zdd]at hi4;refine⟨_,_,rfl,rfl,?_⟩;rw[congrFun hT4 l6'];refine zaa ?_;obtain⟨x37,g38,hi4⟩:=bind_some hi4;obtain⟨x39,g40,hi4⟩:=bind_some hi4;obtain⟨r41,g42,hi4⟩:=bind_some hi4;try simp only[rnA,Nat.reduceEqDiff,Nat.reduceLT,Nat.reduceAdd,el6',za3 g38,(show y36.1<(((Int.toNat r12.1):Nat):Int)from el6' ▸ zaY g38),zaB g38 ((eI .i64).c true),zak (n:=1) (e:=(eI .i64)) rfl g40]
   refine EvL.fn (zkn g42) rfl rfl (.cons (.lit _) (.cons (.lit _) .nil)) ?_;try simp only[rnA,Nat.reduceEqDiff,Nat.reduceLT]
   obtain⟨o5,j5,hi4⟩:=bind_some hi4;obtain⟨T5,hT5⟩:=mkT fun a:Bool=>⟨113,[(4,(.ptr 2 0)),(5,(.ptr 3 0)),(12,(.ptr 7 0)),(15,(dI y36.1)),(18,(dU r41.2)),(102,(dB a))],[.cells [(fzE false (eI .i64) p0.vars),(fzE false (eI .i64) p0.cards),(fzE false (eI .i64) p0.w)],.cells [(fzE false (eI .i64) p1.vars),(fzE false (eI .i64) p1.cards),(fzE false (eI .i64) p1.w)],.cells [zaD,zaD,zaD],.cells [(dI 0)],.cells [(fzE false (eI .i64) r1.1.factor.vars),(fzE false (eI .i64) r1.1.factor.cards),(fzE false (eI .i64) r1.1.factor.w),(fzE false (eI .i64) r1.1.steps)],.cells [(fzE false (eI .i64) r4.1.factor.vars),(fzE false (eI .i64) r4.1.factor.cards),(fzE false (eI .i64) r4.1.factor.w),(fzE false (eI .i64) r4.1.steps)],.els 1 (l6'.map ((eI .i64).c true)),.cells [(.sl 6 0 1 (Int.toNat r12.1) (some (Int.toNat r12.1)) (Int.toNat r12.1))],.lost,lpF,.els 1 (y36.2.2.map ((eI .i64).c true))]⟩
   refine EvL.jn T5 (fun a=>a=o5) ?_ ?_
   ·refine zaa ?_;try simp only[rnA,Nat.reduceEqDiff,Nat.reduceLT]
    cases c43:(r41.1 == 0)
    ·rw[c43,cond_false]at j5;try simp only[rnA,Nat.reduceEqDiff,Nat.reduceLT]
     replace j5:=qaa j5; subst j5;exact⟨_,rfl,by rw[hT5]; exact zaV.mK (k0:=11) [.k,.k,.k,.k,.k,.k,.k,.k,.k,.k,.k] rfl rfl (msq (msq (msq (msq (msq (msq trivial)))))) ⟨MB.cs ⟨qb1,qb1,qb1,qb1⟩,⟨MB.cs ⟨qb1,qb1,qb1,qb1⟩,⟨MB.cs ⟨qb1,qb1,qb1,qb1⟩,⟨MB.cs ⟨qb1,qb1⟩,⟨MB.cs ⟨qb1,qb1,qb1,qb1,qb1⟩,⟨MB.cs ⟨qb1,qb1,qb1,qb1,qb1⟩,⟨MB.es (eI .i64) true l6',⟨MB.cs ⟨rfl,qb1⟩,⟨MB.same trivial,⟨.same (hkin _ (by decide)),⟨MB.es (eI .i64) true y36.2.2,qb1⟩⟩⟩⟩⟩⟩⟩⟩⟩⟩⟩⟩
    rw[c43,cond_true]at j5;try simp only[rnA,Nat.reduceEqDiff,Nat.reduceLT]
    replace j5:=qaa j5; subst j5;exact⟨_,rfl,by rw[hT5]; exact zaV.mK (k0:=11) [.k,.k,.k,.k,.k,.k,.k,.k,.k,.k,.k] rfl rfl (msq (msq (msq (msq (msq (msq trivial)))))) ⟨MB.cs ⟨qb1,qb1,qb1,qb1⟩,⟨MB.cs ⟨qb1,qb1,qb1,qb1⟩,⟨MB.cs ⟨qb1,qb1,qb1,qb1⟩,⟨MB.cs ⟨qb1,qb1⟩,⟨MB.cs ⟨qb1,qb1,qb1,qb1,qb1⟩,⟨MB.cs ⟨qb1,qb1,qb1,qb1,qb1⟩,⟨MB.es (eI .i64) true l6',⟨MB.cs ⟨rfl,qb1⟩,⟨MB.same trivial,⟨.same (hkin _ (by decide)),⟨MB.es (eI .i64) true y36.2.2,qb1⟩⟩⟩⟩⟩⟩⟩⟩⟩⟩⟩⟩
   rintro v102 rfl;rw[congrFun hT5 v102];refine zaa ?_;try simp only[rnA,Nat.reduceEqDiff]
   cases c44:v102
   ·rw[c44,cond_false]at hi4;obtain⟨x45,g46,hi4⟩:=bind_some hi4;obtain⟨y47,g48,hi4⟩:=bind_some hi4;try simp only[rnA,Nat.reduceEqDiff,Nat.reduceLT,Nat.reduceLeDiff,el6',za3 g46,(show y36.1<(((Int.toNat r12.1):Nat):Int)from el6' ▸ zaY g46),zaB g46 ((eI .i64).c true),(show(l6'.map ((eI .i64).c true)).set y36.1.toNat [(dI (w64 r41.2))]=y47.map ((eI .i64).c true)from za2 g48 ((eI .i64).c true))]
    exact⟨T4 y47,by rw[hT4]; rfl,by rw[hT4]; exact zaV.mK [.k,.k,.k,.k,.k,.k,.k,.k,.k,.k,.k] rfl rfl qb1 ⟨MB.cs ⟨qb1,qb1,qb1,qb1⟩,⟨MB.cs ⟨qb1,qb1,qb1,qb1⟩,⟨MB.cs ⟨qb1,qb1,qb1,qb1⟩,⟨MB.cs ⟨qb1,qb1⟩,⟨MB.cs ⟨qb1,qb1,qb1,qb1,qb1⟩,⟨MB.cs ⟨qb1,qb1,qb1,qb1,qb1⟩,⟨MB.es (eI .i64) true y47,⟨MB.cs ⟨rfl,qb1⟩,⟨MB.same trivial,⟨.same (hkin _ (by decide)),⟨MB.same (zeP _ _ _ _),qb1⟩⟩⟩⟩⟩⟩⟩⟩⟩⟩⟩,y47,⟨hi4,(zaR g48).trans el6'⟩,rfl⟩
   rw[c44,cond_true]at hi4;try simp only[rnA,Nat.reduceEqDiff,Nat.reduceLT,Nat.reduceAdd,Nat.reduceLeDiff]
   replace hi4:=qaa hi4; subst hi4;dsimp only at h;replace h:=qaa h; subst h;exact⟨[.cells [(fzE false (eI .i64) p0.vars),(fzE false (eI .i64) p0.cards),(fzE false (eI .i64) p0.w)],.cells [(fzE false (eI .i64) p1.vars),(fzE false (eI .i64) p1.cards),(fzE false (eI .i64) p1.w)],.cells [zaD,zaD,zaD],.cells [(dI 6)],.cells [(fzE false (eI .i64) r1.1.factor.vars),(fzE false (eI .i64) r1.1.factor.cards),(fzE false (eI .i64) r1.1.factor.w),(fzE false (eI .i64) r1.1.steps)],.cells [(fzE false (eI .i64) r4.1.factor.vars),(fzE false (eI .i64) r4.1.factor.cards),(fzE false (eI .i64) r4.1.factor.w),(fzE false (eI .i64) r4.1.steps)],.els 1 (l6'.map ((eI .i64).c true)),.cells [(.sl 6 0 1 (Int.toNat r12.1) (some (Int.toNat r12.1)) (Int.toNat r12.1))],.lost],rfl,zaV.mK [.k,.k,.k,.k,.k,.k,.k,.k,.k,.k,.k] rfl rfl qb1 ⟨MB.cs ⟨qb1,qb1,qb1,qb1⟩,⟨MB.cs ⟨qb1,qb1,qb1,qb1⟩,⟨MB.cs ⟨qb1,qb1,qb1,qb1⟩,⟨MB.cs ⟨qb1,qb1⟩,⟨MB.cs ⟨qb1,qb1,qb1,qb1,qb1⟩,⟨MB.cs ⟨qb1,qb1,qb1,qb1,qb1⟩,⟨MB.es (eI .i64) true l6',⟨MB.cs ⟨rfl,qb1⟩,⟨MB.same trivial,⟨.same (hkin _ (by decide)),⟨MB.same (zeP _ _ _ _),qb1⟩⟩⟩⟩⟩⟩⟩⟩⟩⟩⟩,rfl,⟨⟨qb1,qb1,qb1,qb1⟩,⟨qb1,qb1,qb1,qb1⟩,⟨qb1,qb1,qb1,qb1⟩,⟨qb1,qb1⟩,⟨qb1,qb1,qb1,qb1,qb1⟩,⟨qb1,qb1,qb1,qb1,qb1⟩,(zdg (eI .i64) _ _ _),⟨(qac rfl),qb1⟩,qb1,qb1⟩,za0.ret rfl (Snp.zb7 (.cons (.za8 (.cons (zah (eI .i64)) (.cons (zah (eI .i64)) (.cons (zah (eI .i64)) .nil)))) (.cons (.lit _) .nil)))⟩
  ·rintro l6' ⟨hi4,el6'⟩;rw[qbi]at hi4;simp only[zdd]at hi4;exact⟨l6',(qaa hi4).symm,el6',rfl⟩
  ·rintro _ ⟨l6',oeq,el6',rfl⟩;have oeq2:=oeq.symm;subst oeq2;dsimp only at h;rw[congrFun hT4 l6'];refine zaa ?_;try simp only[rnA,Nat.reduceEqDiff,Nat.reduceLT,Nat.reduceAdd,Nat.reduceLeDiff]
   replace h:=qaa h; subst h;exact za0.ret rfl (Snp.zb7 (.cons (.za8 (.cons (zad _ _ (fun _=>rfl)) (.cons (zad _ _ (fun _=>rfl)) (.cons (zaj (e:=(eI .i64)) (t:=true) rfl (.inl rfl) (el6').symm (el6').symm (fun k h=>by cases h; exact qae _) (fun _=>rfl)) .nil)))) (.cons (.lit _) .nil)))
  ·intro id L1 hx; exact hx.elim
  intro L1 hx; exact hx.2.2
 ·intro id L1 hx; exact hx.elim
 intro L1 hx; exact hx.2.2
def zev:Option S_api_Factor:=
some (S_api_Factor.mk [] [] [1])
theorem zgM{r:S_api_Factor}(h:zev=some r):Lx.Fn mC 38 [] (.agg [(fzE true (eI .i64) r.vars),(fzE true (eI .i64) r.cards),(fzE true (eI .i64) r.w)]):=by
 refine fnO (by conv=>lhs; cbv) ?_;unfold zev at h;refine zaa ?_;try simp only[rnA,Nat.reduceEqDiff,reduceIte,Nat.reduceLT,Nat.reduceAdd,Nat.reduceLeDiff,Nat.reduceMul,Nat.reduceSub,Int.reduceLE,Int.reduceLT,Int.reduceBEq,Nat.reduceBEq,reduceCtorEq,zar]
 replace h:=qaa h; subst h;exact za0.ret rfl (.za8 (.cons (zah (eI .i64)) (.cons (zah (eI .i64)) (.cons (zaj (e:=(eI .i64)) (t:=true) rfl (.inl rfl) rfl rfl (fun k h=>by cases h; exact qae _) (fun _=>rfl)) .nil))))
def zbN(p0:(List S_api_Factor)):Nat→Int→(List Int)→(List Int)→(List Int)→Option ((List Int)×(List Int)×(List Int))
 | 0,_,_,_,_=>none
 | n+1,v9,b1_0,b1_1,b1_2=>(
bif (decide (v9<(p0.length:Int)))then(
(za6 p0 v9).bind fun x4=>
(zfZ (S_api_Factor.mk b1_0 b1_1 b1_2) x4).bind fun r6=>
zbN p0 n (w64 (v9+1)) r6.1.vars r6.1.cards r6.1.w)
else(
some (b1_0,b1_1,b1_2)))
def zb1(p0:(List S_api_Factor)):Option S_api_Factor:=
(zev).bind fun r1=>
((zbN p0 ((p0.length:Int) - 0+2:Int).toNat 0 r1.vars r1.cards r1.w:Option (((List Int)×(List Int)×(List Int))))).bind fun o=>match o with
|(b1_0,b1_1,b1_2)=>(
some (S_api_Factor.mk b1_0 b1_1 b1_2))
theorem zdN{p0:(List S_api_Factor)}{r:S_api_Factor}(h:zb1 p0=some r):Lx.Fn mC 130 [(fzE false zab p0)] (.agg [(fzE true (eI .i64) r.vars),(fzE true (eI .i64) r.cards),(fzE true (eI .i64) r.w)]):=by
 refine fnO (by conv=>lhs; cbv) ?_;unfold zb1 at h;refine zaa ?_;obtain⟨r1,g2,h⟩:=bind_some h;try simp only[rnA,Nat.reduceLT]
 refine EvL.fn (zgM g2) rfl rfl .nil ?_;try simp only[rnA,Nat.reduceEqDiff,Nat.reduceLT,Nat.reduceAdd,Nat.reduceLeDiff,reduceCtorEq,zam]
 obtain⟨o1,j1,h⟩:=bind_some h;obtain⟨T1,hT1⟩:=mkT fun a:((List Int)×(List Int)×(List Int))=>⟨21,[(2,(.ptr 0 0)),(3,(.ptr 1 0))],[.cells [zaD,zaD,zaD],.cells [(fzE true (eI .i64) a.1),(fzE true (eI .i64) a.2.1),(fzE true (eI .i64) a.2.2)]]⟩
 refine EvL.jn T1 (fun a=>a=o1) ?_ ?_
 ·refine zaa ?_;simp only[rnA];obtain⟨T2,hT2⟩:=mkT fun a:(Int×(List Int)×(List Int)×(List Int))=>⟨21,[(2,(.ptr 0 0)),(3,(.ptr 1 0)),(7,(fzE false zab p0)),(8,(dI (p0.length:Int))),(9,(dI a.1))],[.cells [zaD,zaD,zaD],.cells [(fzE true (eI .i64) a.2.1),(fzE true (eI .i64) a.2.2.1),(fzE true (eI .i64) a.2.2.2)]]⟩
  refine EvL.rounds (α:=(Int×(List Int)×(List Int)×(List Int))) T2 (fun n a=>zbN p0 n a.1 a.2.1 a.2.2.1 a.2.2.2=some o1) ((p0.length:Int) - 0+2:Int).toNat (0,r1.vars,r1.cards,r1.w) (by rw[hT2]; exact wm0 [.k,.k] ⟨MB.cs ⟨qb1,qb1,qb1,qb1⟩,⟨MB.cs ⟨qb1,qb1,qb1,qb1⟩,qb1⟩⟩) j1 (fun _ h=>nomatch (show(none:Option ((List Int)×(List Int)×(List Int)))=some o1 from h)) ?_;rintro n ⟨v9,b1_0,b1_1,b1_2⟩ j1;simp only[zbN]at j1;rw[congrFun hT2 (v9,b1_0,b1_1,b1_2)];refine zaa ?_;try simp only[rnA,Nat.reduceEqDiff,Nat.reduceLT]
  cases c3:(decide (v9<(p0.length:Int)))
  ·rw[c3,cond_false]at j1;try simp only[rnA]
   replace j1:=qaa j1; subst j1;exact lfj hT1 rfl (wm0 [.k,.k] ⟨MB.cs ⟨qb1,qb1,qb1,qb1⟩,⟨MB.cs ⟨qb1,qb1,qb1,qb1⟩,qb1⟩⟩)
  rw[c3,cond_true]at j1;obtain⟨x4,g5,j1⟩:=bind_some j1;obtain⟨r6,g7,j1⟩:=bind_some j1;try simp only[rnA,Nat.reduceEqDiff,Nat.reduceLT,Nat.reduceAdd,Nat.reduceLeDiff,zar,zak (n:=3) (e:=zab) rfl g5]
  refine EvL.fn (zkD g7) rfl rfl (.cons (.za8 (.cons (zad _ _ (fun h=>nomatch h)) (.cons (zad _ _ (fun h=>nomatch h)) (.cons (zad _ _ (fun h=>nomatch h)) .nil)))) (.cons (.za8 (.cons (zad _ _ (fun h=>nomatch h)) (.cons (zad _ _ (fun h=>nomatch h)) (.cons (zad _ _ (fun h=>nomatch h)) .nil)))) .nil)) ?_;try simp only[rnA,Nat.reduceEqDiff,Nat.reduceLT,Nat.reduceAdd,Nat.reduceLeDiff]
  exact⟨((w64 (v9+1)),r6.1.vars,r6.1.cards,r6.1.w),j1,by rw[hT2]; exact wm0 [.k,.k] ⟨MB.cs ⟨qb1,qb1,qb1,qb1⟩,⟨MB.cs ⟨qb1,qb1,qb1,qb1⟩,qb1⟩⟩⟩
 rintro⟨b1_0,b1_1,b1_2⟩ rfl;dsimp only at h;rw[congrFun hT1 (b1_0,b1_1,b1_2)];refine zaa ?_;try simp only[rnA,Nat.reduceEqDiff,Nat.reduceLT,Nat.reduceAdd,Nat.reduceLeDiff]
 replace h:=qaa h; subst h;exact za0.ret rfl (.za8 (.cons (zad _ _ (fun _=>rfl)) (.cons (zad _ _ (fun _=>rfl)) (.cons (zad _ _ (fun _=>rfl)) .nil))))
structure StR where
 count:Int
 product:S_api_Factor
abbrev StI:Type:=StR×List S_api_Factor
def zfJ(q:S_eliminate_query):List S_api_Factor→List Int→Option (List StI)
 | l,[]=>(zb1 l).bind fun p=>some [(⟨(l.length:Int),p⟩,l)]
 | l,x :: xs=>(za6 q.known x).bind fun kx=>bif decide (0≤kx)then zfJ q l xs else(zef l x).bind fun r=>bif (r.1.length:Int)== 0 then zfJ q l xs else
   (zb1 r.1).bind fun p=>(zee p x).bind fun y=>(ze9 72 r.2 [y.1]).bind fun l'=>(zfJ q l' xs).bind fun u=>some ((⟨(r.1.length:Int),p⟩,l):: u)
def zns(q:S_eliminate_query)(l:List S_api_Factor)(order:List Int):Option (List StI):=(ziE order).bind fun _=>zfJ q l order
def stG(l:List S_api_Factor)(u:List StI)(i:Nat):LB:=.cells [fzE false zab (match u[i]? with | some y=>y.2 | none=>l)]
theorem zkf(l:List S_api_Factor)(u:List StI)(i:Nat)(kp:Nat→Bool):LB.kin kp (stG l u i):=⟨qb1,qb1⟩
theorem znf(l:List S_api_Factor)(u:List StI)(i n:Nat):LB.sc n (stG l u i):=⟨qb1,qb1⟩
theorem zgs{q:S_eliminate_query}:∀ {xs:List Int} {l:List S_api_Factor} {u:List StI},zfJ q l xs=some u→∃ y u',u=y :: u'∧y.2=l
 | [],l,u,h=>by
  obtain⟨p,_,h⟩:=bind_some h;cases h;exact⟨_,[],rfl,rfl⟩
 | x :: xs,l,u,h=>by
  unfold zfJ at h;obtain⟨kx,_,h⟩:=bind_some h;cases h1:decide (0≤kx)with
  | true=>rw[h1,cond_true]at h; exact zgs h
  | false=>
  rw[h1,cond_false]at h;obtain⟨r,_,h⟩:=bind_some h;cases h2:((r.1.length:Int)== 0)with
  | true=>rw[h2,cond_true]at h; exact zgs h
  | false=>
  rw[h2,cond_false]at h;obtain⟨p,_,h⟩:=bind_some h;obtain⟨y,_,h⟩:=bind_some h;obtain⟨l',_,h⟩:=bind_some h;obtain⟨u',_,h⟩:=bind_some h;cases h;exact⟨_,u',rfl,rfl⟩
theorem znk{q:S_eliminate_query}{xs:List Int}{l:List S_api_Factor}{u:List StI}(h:zfJ q l xs=some u):stG l u 0=.cells [fzE false zab l]:=by
 obtain⟨y,u',rfl,e⟩:=zgs h;show LB.cells [fzE false zab y.2]=_;rw[e]
theorem zls{q:S_eliminate_query}{xs:List Int}{l:List S_api_Factor}{u:List StI}(h:zns q l xs=some u):stG l u 0=.cells [fzE false zab l]:=by
 obtain⟨_,_,h⟩:=bind_some h;exact znk h
def stY(y:StI)(n0:Nat)(args:List D)(G:List LB):Prop:=
 args=[.agg [dI y.1.count,fzE true (eI .i64) y.1.product.vars,fzE true (eI .i64) y.1.product.cards,fzE true (eI .i64) y.1.product.w]]∧∃ gB,(∀ kp,LB.kin kp gB)∧G=[.gone,gB]
def zsm:C:=.reg false false [⟨some 16,.idxS 1 (.s 12) (.s 14),none⟩,
 ⟨some 17,.load none (.s 16),none⟩,
 ⟨some 6,.alloc [(.int .i64 0)],none⟩,
 ⟨none,.store 1 (.s 6) (.s 17),none⟩]
def zsq:C:=.seq (.reg false false [⟨some 18,.fld 2 (.s 2),none⟩,
 ⟨some 19,.load none (.s 18),none⟩,
 ⟨some 20,.load none (.s 6),none⟩,
 ⟨some 21,.idxS 1 (.s 19) (.s 20),none⟩,
 ⟨some 22,.load none (.s 21),none⟩,
 ⟨some 23,.bin .geq (.s 22) (.c (.int .i64 0)),none⟩])
 (.cond (.s 23) (.exit 1)
 (.skip))
def zsj:C:=.reg false false [⟨some 25,.load none (.s 3),none⟩,
 ⟨some 26,.clo 129 [] [(.s 6)],none⟩,
 ⟨some 27,.call 128 [(.s 25),(.s 26)],none⟩,
 ⟨some 24,.mov (.s 27),none⟩,
 ⟨some 28,.ext (.s 24) 0,none⟩,
 ⟨some 29,.ext (.s 24) 1,none⟩,
 ⟨some 7,.mov (.s 28),none⟩,
 ⟨some 8,.mov (.s 29),none⟩]
def zr4:C:=.seq (.reg false false [⟨some 30,.mov (.s 7),none⟩,
 ⟨some 31,.len (.s 30),none⟩,
 ⟨some 32,.bin .eql (.s 31) (.c (.int .i64 0)),none⟩])
 (.cond (.s 32) (.exit 1)
 (.skip))
def zsM:C:=.reg false false [⟨some 33,.mov (.s 7),none⟩,
 ⟨some 34,.call 130 [(.s 33)],none⟩,
 ⟨some 9,.alloc [(.slice none 0 0),(.slice none 0 0),(.slice none 0 0)],none⟩,
 ⟨none,.store 3 (.s 9) (.s 34),none⟩]
def zsT:C:=.seq (.reg false false [⟨some 35,.mov (.s 0),none⟩,
 ⟨some 36,.mov (.s 7),none⟩,
 ⟨some 37,.len (.s 36),none⟩,
 ⟨some 38,.load (some 3) (.s 9),none⟩,
 ⟨some 39,.build [(.int .i64 0),(.slice none 0 0),(.slice none 0 0),(.slice none 0 0)] [(0,1,(.s 37)),(1,3,(.s 38))],none⟩,
 ⟨some 40,.zdW (.s 35) [(.s 39)],none⟩,
 ⟨some 41,.un .not (.s 40),none⟩])
 (.cond (.s 41) (.ret)
 (.skip))
def zsz:C:=.reg false false [⟨some 43,.load (some 3) (.s 9),none⟩,
 ⟨some 44,.load none (.s 6),none⟩,
 ⟨some 45,.call 33 [(.s 43),(.s 44)],none⟩,
 ⟨some 42,.mov (.s 45),none⟩,
 ⟨some 46,.ext (.s 42) 0,none⟩,
 ⟨some 47,.ext (.s 42) 1,none⟩,
 ⟨some 10,.alloc [(.slice none 0 0),(.slice none 0 0),(.slice none 0 0)],none⟩,
 ⟨none,.store 3 (.s 10) (.s 46),none⟩,
 ⟨some 11,.mov (.s 47),none⟩]
def zsn:C:=.reg false false [⟨some 48,.mov (.s 8),none⟩,
 ⟨some 49,.load (some 3) (.s 10),none⟩,
 ⟨some 50,.bsl 3 1 [(.slice none 0 0),(.slice none 0 0),(.slice none 0 0)] [(0,(.s 49))],none⟩,
 ⟨some 51,.app 3 72 (.s 48) (.s 50),none⟩,
 ⟨none,.store 1 (.s 3) (.s 51),none⟩]
def zr3:C:=.seq zsm (.seq zsq (.seq zsj (.seq zr4 (.seq zsM (.seq zsT (.seq zsz zsn))))))
def zpu:C:=.seq (.reg false false [⟨some 15,.bin .lss (.s 14) (.s 13),none⟩]) (.seq (.cond (.s 15) (.skip)
 (.exit 0)) (.seq (.scope (.block 1 zr3)) (.reg false false [⟨some 52,.bin .add (.s 14) (.c (.int .i64 1)),none⟩,
 ⟨some 14,.mov (.s 52),none⟩])))
def zqK:C:=.reg true false [⟨some 53,.mov (.s 0),none⟩,
 ⟨some 54,.load none (.s 3),none⟩,
 ⟨some 55,.len (.s 54),none⟩,
 ⟨some 56,.load none (.s 3),none⟩,
 ⟨some 57,.call 130 [(.s 56)],none⟩,
 ⟨some 58,.build [(.int .i64 0),(.slice none 0 0),(.slice none 0 0),(.slice none 0 0)] [(0,1,(.s 55)),(1,3,(.s 57))],none⟩,
 ⟨some 59,.zdW (.s 53) [(.s 58)],none⟩]
def ztQ:C:=.seq (.seq (.reg false false [⟨some 12,.load none (.s 1),none⟩,
 ⟨some 13,.len (.s 12),none⟩,
 ⟨some 14,.mov (.c (.int .i64 0)),none⟩]) (.scope (.block 0 (.loop zpu)))) zqK
theorem zsQ:zhM mC 127=some (60,ztQ,[],false):=zbs (by kernel_rfl)
theorem drop_cons{α:Type}{u r:List α}{j:Nat}{y:α}(h:u.drop j=y :: r):u[j]? = some y∧u.drop (j+1)=r:=by
 have hj:j<u.length:=by
  refine Nat.lt_of_not_le fun hn=>?_
  rw[qbc hn]at h;cases h
 rw[qa3 hj]at h;exact⟨by rw[qaf hj,(qbS h).1],(qbS h).2⟩
theorem zaV.ztF{k0 N n:Nat}{E E':List (Nat×D)}{L L1 X:List LB}(ws:List Lx.Act)(hn:L.length=n)(hk:k0≤n)(hl:L1.length=n)(hb:∀(j:Nat) b b',L[j]? = some b→L1[j]? = some b'→MB (L ++ X) (isF (zdU n ws)) (isK (zdU n ws)) b b')
  (hY:zle ws 0=true) (hE:MEs (L ++ X) (zdU n ws) E E'):zaV k0 ⟨N,E,L ++ X⟩ ⟨N,E',L1⟩:=by
 have hX:MBx (L ++ X) (isF (zdU n ws)) (isK (zdU n ws)) ws X []:=by cases ws<;>cases X<;>trivial
 have h:=zaV.zrw (N:=N) ws hn hk hl hb hX hY hE
 rwa [qaC]at h
theorem zlc{q:S_eliminate_query}{l0:List S_api_Factor}{order:List Int}{u:List StI}(hu0:zns q l0 order=some u)(κ:Nat):
  ztG mC 127 [] [.fptr false ((eL (eI .i64)).c false order),.fptr false (zao.c false q),.ptr κ 0] u stY κ (stG l0 u):=by
 intro n0 β P Ps hβ hκ hne hlen hset hround L hP;obtain⟨_,hsm,hu⟩:=bind_some hu0;refine zdD.ofM zsQ (zaZ rfl) (qac rfl) ?_;rw[znk hu]at hP;have hL:=(hlen _ _ _ hP).1;unfold ztQ;refine zaa ?_;simp only[rnA,Nat.reduceEqDiff,Nat.reduceLT,Nat.reduceAdd,reduceCtorEq,zam];refine EvL.scope (zaa ?_);simp only[rnA];rw[hL];refine EvL.loop (α:=Nat×Nat×List S_api_Factor×List LB) (fun a=>⟨60,[(0,.yld β),(2,.fptr false (zao.c false q)),(3,.ptr κ 0),(12,fzE false (eI .i64) order),(13,dI (order.length:Int)),(14,dI (a.1:Int))],a.2.2.2⟩)
  (fun a=>P a.2.1 (.cells [fzE false zab a.2.2.1]) a.2.2.2∧zfJ q a.2.2.1 (order.drop a.1)=some (u.drop a.2.1)∧a.1≤order.length) (fun a=>order.length - a.1) (0,0,l0,L) (by refine zaV.sub ?_; exact⟨rfl,rfl,rfl,rfl,rfl,rfl,qb1⟩) ⟨hP,hu,qbn _⟩ ?_
 rintro⟨i,j,l,L1⟩ ⟨hp,hs,hi⟩;simp only at hp hs hi;obtain⟨hl,hk1,hsc0⟩:=hlen _ _ _ hp;have hsc:zcH n0 L1:=hsc0 fun n=>⟨qb1,qb1⟩
 have hsm':=zgK hsm;unfold zpu;refine zaa ?_;rcases qaT i order.length with hlt | hge
 ·have hlt':(i:Int)<(order.length:Int):=by omega
  have hx:za6 order (i:Int)=some order[i]:=by unfold za6; rw[if_pos (by omega),qbd,qaf hlt]
  rw[qa3 hlt]at hs;generalize order[i]=x at hx hs;unfold zfJ at hs;obtain⟨kx,hk,hs⟩:=bind_some hs;simp only[rnA,Nat.reduceEqDiff,Nat.reduceLT,reduceCtorEq,hlt'];refine EvL.jn (fun a:Nat×List S_api_Factor×List LB=>⟨60,[(0,.yld β),(2,.fptr false (zao.c false q)),(3,.ptr κ 0),(12,fzE false (eI .i64) order),(13,dI (order.length:Int)),(14,dI (i:Int))],a.2.2⟩)
   (fun a=>P a.1 (.cells [fzE false zab a.2.1]) a.2.2∧zfJ q a.2.1 (order.drop (i+1))=some (u.drop a.1)) ?_ ?_
  ·unfold zr3 zsm zsq zsj zr4 zsM zsT zsz zsn;refine zaa ?_;have hg0:=zks hl;have hs0:=zmS hl;cases hc:decide (0≤kx)with
   | true=>
    rw[hc,cond_true]at hs;simp only[rnA,Nat.reduceEqDiff,Nat.reduceLT,Nat.reduceAdd,Nat.reduceLeDiff,reduceCtorEq,zak (n:=1) (e:=eI .i64) rfl hx,zaw,hl,hg0,hs0,zak (n:=1) (e:=eI .i64) rfl hk,hc];exact⟨(j,l,L1),⟨hp,hs⟩,zaV.cut (L:=L1) (Nat.le_of_eq hl.symm) ⟨⟨rfl,by rw[hl]; exact hβ⟩,⟨rfl,qb1⟩,⟨rfl,by rw[hl]; exact hκ⟩,⟨rfl,qb1⟩,⟨rfl,qb1⟩,⟨rfl,qb1⟩,qb1⟩ (by rw[hl]; exact hsc)⟩
   | false=>
   rw[hc,cond_false]at hs;obtain⟨r,hr,hs⟩:=bind_some hs;simp only[rnA,Nat.reduceEqDiff,Nat.reduceLT,Nat.reduceAdd,Nat.reduceLeDiff,reduceCtorEq,zak (n:=1) (e:=eI .i64) rfl hx,zaw,hl,hg0,hs0,zak (n:=1) (e:=eI .i64) rfl hk,hc,zm1 hl hκ,hk1];refine EvL.zeH (S':=⟨60,[(0,.yld β),(2,.fptr false (zao.c false q)),(3,.ptr κ 0),(12,fzE false (eI .i64) order),(13,dI (order.length:Int)),(14,dI (i:Int)),(6,.fptr false ((eI .i64).c false x)),(25,fzE false zab l),(26,.clo 129 [] [.fptr false ((eI .i64).c false x)])],L1 ++ []⟩)
    (zaV.zrw (X:=[.cells ((eI .i64).c false x)]) (Y:=[]) [.f] hl (qae _) hl (zkJ hsc) trivial rfl ?_) ?_
   ·exact(ms rfl (ze7 hβ) (msq (ms rfl (ze7 hκ) (msq (msq (ms rfl qb1
     (mf rfl (ziA (t:=false) (eI .i64) x (zpF rfl) (hg0 _) (fun h=>h)) (msq (mx rfl (Mo.clo rfl rfl (Mos.get .nil) (Mos.get (.cons (.fr (ziA (t:=false) (eI .i64) x (zpF rfl) (hg0 _) (fun h=>h))) .nil))) trivial)))))))))
   refine zaa ?_;simp only[rnA];refine EvL.fnT (r:=.tup [.sl n0 0 3 r.1.length none r.1.length,.sl (n0+1) 0 3 r.2.length none r.2.length]) (L':=L1 ++ [.grow 3 (r.1.map (zab.c false)),.grow 3 (r.2.map (zab.c false))]) (zhK hr) rfl rfl
    (.cons (zal _ _ (fun h=>by cases h<;>contradiction)) (.cons (.clo rfl rfl (Mzs.get .nil) (Mzs.get (.cons (.fptr (fun h=>by cases h<;>contradiction) rfl (Mzs.get (.cons (.lit _) .nil))) .nil))) .nil))
    ⟨zae _ _,⟨qb1,⟨rfl,qb1,qb1⟩,qb1⟩,qb1⟩ ⟨qb1,qb1,qb1⟩ ⟨zop zab (fun x=>zab.fr x) _,zop zab (fun x=>zab.fr x) _,qb1⟩ (by rw[qaC,hl]; rfl) (by rw[qaC]) ?_
   cases hc2:((r.1.length:Int)== 0)with
   | true=>
    rw[hc2,cond_true]at hs;simp only[rnA,Nat.reduceEqDiff,Nat.reduceLT,reduceCtorEq,hc2,hg0];exact⟨(j,l,L1),⟨hp,hs⟩,zaV.cut (L:=L1) (Nat.le_of_eq hl.symm) ⟨⟨rfl,by rw[hl]; exact hβ⟩,⟨rfl,qb1⟩,⟨rfl,by rw[hl]; exact hκ⟩,⟨rfl,qb1⟩,⟨rfl,qb1⟩,⟨rfl,qb1⟩,qb1⟩ (by rw[hl]; exact hsc)⟩
   | false=>
   rw[hc2,cond_false]at hs;obtain⟨p,hpm,hs⟩:=bind_some hs;obtain⟨y,hy,hs⟩:=bind_some hs;obtain⟨l',hl',hs⟩:=bind_some hs;obtain⟨u',hu',hs⟩:=bind_some hs;obtain⟨hj1,hj2⟩:=drop_cons (qaa hs).symm;simp only[rnA,Nat.reduceEqDiff,Nat.reduceLT,reduceCtorEq,hc2,hg0];refine EvL.fn (zdN hpm) rfl rfl (.cons (zaj (e:=zab) (t:=false) rfl (.inr (by rw[zks hl]; rfl)) rfl rfl (fun k h=>nomatch h) (fun h=>h)) .nil) ?_;simp only[rnA,Nat.reduceEqDiff,Nat.reduceLT,Nat.reduceAdd,Nat.reduceLeDiff,reduceCtorEq,qao,hl,hg0,zix hl,zmm hl,qa7];refine EvL.zeH (S':=⟨60,[(0,.yld β),(2,.fptr false (zao.c false q)),(3,.ptr κ 0),(12,fzE false (eI .i64) order),(13,dI (order.length:Int)),(14,dI (i:Int)),(6,.fptr false ((eI .i64).c false x)),(8,.sl (n0+1) 0 3 r.2.length none r.2.length),(9,.fptr true (zab.c true p)),(35,.yld β),(39,.agg [dI (r.1.length:Int),fzE true (eI .i64) p.vars,fzE true (eI .i64) p.cards,fzE true (eI .i64) p.w])],L1 ++ [.gone,.grow 3 (r.2.map (zab.c false))]⟩)
    (zaV.zrw (X:=[.grow 3 (r.1.map (zab.c false)),.grow 3 (r.2.map (zab.c false)),.cells (zab.c true p)]) (Y:=[.gone,.grow 3 (r.2.map (zab.c false))]) [.d,.k,.f] hl (qae _) hl (zkJ hsc) ⟨rfl,MB.gs zab false _,qb1⟩ rfl ?_) ?_
   ·exact(ms rfl (ze7 hβ) (msq (ms rfl (ze7 hκ) (msq (msq (msq (msq (ms rfl (zr0 (j:=1) rfl)
     (mf rfl (ziA (t:=true) zab p (zpk (j:=2) rfl) (by rw[zix hl]; rfl) (fun h=>h)) (ms rfl (ze7 hβ) (ms rfl ⟨qb1,qb1,qb1,qb1,qb1⟩ trivial)))))))))))
   refine EvL.yield rfl rfl rfl (hround j _ L1 _ [.gone,.grow 3 (r.2.map (zab.c false))] hj1 (by unfold stG; rw[hj1]; exact hp) ⟨rfl,.grow 3 (r.2.map (zab.c false)),fun kp=>zeP zab kp false r.2,rfl⟩) ?_;rintro b L' ⟨Lz,rfl,hl3,hb⟩;cases b with
   | false=>
    simp only[rnA,Nat.reduceEqDiff,Nat.reduceLT,reduceCtorEq];exact⟨[],rfl,Lz,_,rfl,hl3,.inr hb⟩
   | true=>
   simp only[show stG l0 u j=.cells [fzE false zab l]from by unfold stG; rw[hj1]]at hb;obtain⟨_,hk3,hsc30⟩:=hlen _ _ _ hb;have hsc3:zcH n0 Lz:=hsc30 fun n=>⟨qb1,qb1⟩
   simp only[rnA,Nat.reduceEqDiff,Nat.reduceLT,Nat.reduceAdd,Nat.reduceLeDiff,reduceCtorEq,zar];refine EvL.fnS (zhL hy) rfl rfl (.cons (Mzs.agg (.cons (zal _ _ (fun _=>rfl)) (.cons (zal _ _ (fun _=>rfl)) (.cons (zal _ _ (fun _=>rfl)) .nil)))) (.cons (.lit _) .nil)) ⟨⟨zae _ _,zae _ _,zae _ _,qb1⟩,qb1,qb1⟩ ⟨⟨zae _ _,zae _ _,zae _ _,qb1⟩,qb1,qb1⟩ ?_;have hsl3:=zqk (x:=.cells [.sl (n0+1) 0 3 l'.length none l'.length]) hl3 hκ;simp only[rnA,Nat.reduceEqDiff,Nat.reduceLT,Nat.reduceAdd,Nat.reduceLeDiff,reduceCtorEq,qao,hl3,zix hl3,zmm hl3,zm1 hl3 hκ,hk3,qa7,zcE hl',(show r.2.length+1=l'.length from zbC hl'),(show r.2.map (zab.c false)++ [[fzE false (eI .i64) y.1.vars,fzE false (eI .i64) y.1.cards,fzE false (eI .i64) y.1.w]]=l'.map (zab.c false)from zcm hl' (zab.c false)),hsl3];refine⟨(j+1,l',Lz.set κ (.cells [fzE false zab l'])),⟨hset _ _ _ _ hb,by rw[hj2]; exact hu'⟩,?_⟩;have hls:∀ z,(Lz.set κ z).length=n0:=fun z=>by rw[qaW]; exact hl3
   refine zaV.ztF (n:=n0) (X:=[.gone,.grow 3 (l'.map (zab.c false)),.cells [fzE false (eI .i64) y.1.vars,fzE false (eI .i64) y.1.cards,fzE false (eI .i64) y.1.w],.els 3 [[fzE false (eI .i64) y.1.vars,fzE false (eI .i64) y.1.cards,fzE false (eI .i64) y.1.w]]]) [.d,.f,.d,.d] (hls _) (qae _) (hls _)
    (zrC (g:=.cells [.sl (n0+1) 0 3 l'.length none l'.length]) (g':=.cells [fzE false zab l']) hsc3 (MB.cells rfl (Mos.get (.cons (.fr (zcM (s:=false) (t':=false) (cap:=none) (β:=n0+1) (n:=3) (st:=l'.length) (len:=l'.length) (e:=zab) (t:=false) (zpk (j:=1) rfl) rfl (.inr (zix (hls _) _ 1)) rfl rfl (fun k h=>nomatch h) (fun h=>by cases h<;>contradiction))) .nil)))) rfl ?_
   exact(ms rfl (ze7 hβ) (msq (ms rfl (ze7 hκ) (msq (msq (msq trivial))))))
  rintro⟨j,l,L1⟩ ⟨hp,hs⟩;refine zaa ?_;simp only[rnA,Nat.reduceEqDiff,Nat.reduceLT,reduceCtorEq];have hw:IntKind.i64.wrap ((i:Int)+1)=((i+1:Nat):Int):=by rw[wrap64 (by omega) (by omega)]; omega
  exact⟨(i+1,j,l,L1),⟨hp,hs,hlt⟩,by show order.length - (i+1)<order.length - i; omega,by
   rw[hw]
   exact zaV.sub ⟨rfl,rfl,rfl,rfl,rfl,rfl,qb1⟩⟩
 have hge':decide ((i:Int)<(order.length:Int))=false:=decide_eq_false (by omega);rw[qbc hge]at hs;unfold zfJ at hs;obtain⟨p,hpm,hs⟩:=bind_some hs;obtain⟨hj1,hj2⟩:=drop_cons (qaa hs).symm;have hjl:u.length=j+1:=by
  have h1:=(qab.1 hj1).1;have h2:=congrArg List.length hj2;rw[qbo]at h2;simp only[qaJ]at h2;omega
 unfold zqK;simp only[rnA,Nat.reduceEqDiff,Nat.reduceLT,reduceCtorEq,hge',hk1,zam];refine EvL.fn (zdN hpm) rfl rfl (.cons (zad _ _ (fun h=>nomatch h)) .nil) ?_;simp only[rnA,Nat.reduceEqDiff,Nat.reduceLT,Nat.reduceAdd,Nat.reduceLeDiff,reduceCtorEq];refine EvL.zeH (zaV.pad (X:=[.gone,.gone]) (fun b hb=>by simpa using hb)) ?_;refine EvL.yield rfl rfl rfl (hround j _ L1 _ [.gone,.gone] hj1 (by unfold stG; rw[hj1]; exact hp) ⟨rfl,.gone,fun kp=>trivial,rfl⟩) ?_;rintro b L' ⟨Lz,rfl,hl3,hb⟩;simp only[rnA,Nat.reduceLT];cases b with
 | false=>exact⟨[],rfl,Lz,_,rfl,hl3,.inr hb⟩
 | true=>exact⟨[],rfl,Lz,_,rfl,hl3,.inl ⟨j,by rw[hjl]; exact hb⟩⟩
def zeF(p0:(List S_api_Q))(p1:(List S_api_Q)):Nat→Int→Option (Out Unit Bool)
 | 0,_=>none
 | n+1,v5=>(
bif (decide (v5<(p0.length:Int)))then(
(za6 p0 v5).bind fun x3=>
(za6 p1 v5).bind fun x5=>
bif ((x3.n == x5.n) && (x3.d == x5.d))then(
zeF p0 p1 n (w64 (v5+1)))
else(
some (.ret false)))
else(
some (.go ())))
def zgC(p0:(List S_api_Q))(p1:(List S_api_Q)):Option Bool:=
bif ((p0.length:Int)==(p1.length:Int))then(
((zeF p0 p1 ((p0.length:Int) - 0+2:Int).toNat 0:Option (Out Unit Bool))).bind fun o=>match o with
| .go _=>(
some true)
| .ret r=>some r)
else(
some false)
theorem zlE{p0:(List S_api_Q)}{p1:(List S_api_Q)}{r:Bool}(h:zgC p0 p1=some r):Lx.Fn mC 100 [(fzE false zaq p0),(fzE false zaq p1)] (dB r):=by
 refine fnO (by conv=>lhs; cbv) ?_;unfold zgC at h;refine zaa ?_;try simp only[rnA,Nat.reduceEqDiff,Nat.reduceLT,Nat.reduceAdd,reduceCtorEq,zam]
 cases c1:((p0.length:Int)==(p1.length:Int))
 ·rw[c1,cond_false]at h;try simp only[rnA,Nat.reduceLT]
  replace h:=qaa h; subst h;exact za0.ret rfl (.lit _)
 rw[c1,cond_true]at h;try simp only[rnA,Nat.reduceLT]
 obtain⟨o1,j1,h⟩:=bind_some h;obtain⟨T1,hT1⟩:=mkT fun a:Unit=>⟨26,[],[]⟩
 refine EvL.jn T1 (fun a=>o1=.go a) ?_ ?_
 ·refine zaa ?_;simp only[rnA];obtain⟨T2,hT2⟩:=mkT fun a:Int=>⟨26,[(0,(fzE false zaq p0)),(1,(fzE false zaq p1)),(5,(dI a))],[]⟩
  refine EvL.rounds (α:=Int) T2 (fun n a=>zeF p0 p1 n a=some o1) ((p0.length:Int) - 0+2:Int).toNat 0 (by rw[hT2]; exact wm0 [] (by exact trivial)) j1 (fun _ h=>nomatch (show(none:Option (Out Unit Bool))=some o1 from h)) ?_;rintro n v5 j1;simp only[zeF]at j1;rw[congrFun hT2 v5];refine zaa ?_;try simp only[rnA,Nat.reduceEqDiff,Nat.reduceLT,reduceCtorEq,zam]
  cases c2:(decide (v5<(p0.length:Int)))
  ·rw[c2,cond_false]at j1;try simp only[rnA]
   replace j1:=qaa j1; subst j1;exact lfj hT1 rfl (wm0 [] (by exact trivial))
  rw[c2,cond_true]at j1;obtain⟨x3,g4,j1⟩:=bind_some j1;obtain⟨x5,g6,j1⟩:=bind_some j1;try simp only[rnA,Nat.reduceEqDiff,Nat.reduceLT,Nat.reduceAdd,Nat.reduceLeDiff,reduceCtorEq,zaH,zak (n:=2) (e:=zaq) rfl g4,zak (n:=2) (e:=zaq) rfl g6,zrT,Nat.beq_refl]
  cases c7:((x3.n == x5.n) && (x3.d == x5.d))
  ·rw[c7,cond_false]at j1;try simp only[rnA,Nat.reduceLT]
   replace j1:=qaa j1; subst j1;dsimp only at h;replace h:=qaa h; subst h;exact za0.ret rfl (.lit _)
  rw[c7,cond_true]at j1;try simp only[rnA,Nat.reduceEqDiff,Nat.reduceLT,reduceCtorEq]
  exact⟨(w64 (v5+1)),j1,by rw[hT2]; exact wm0 [] (by exact trivial)⟩
 rintro⟨⟩ rfl;dsimp only at h;rw[congrFun hT1 ()];refine zaa ?_;try simp only[rnA,Nat.reduceLT]
 replace h:=qaa h; subst h;exact za0.ret rfl (.lit _)
def zgd:Nat→(List Int)→Option (List Int)
 | 0,_=>none
 | n+1,v0=>(
((bif (decide (0<(v0.length:Int)))then(
(za6 v0 (w64 ((v0.length:Int) - 1))).bind fun x2=>
some (x2 == 0))
else(
some false):Option Bool)).bind fun v14=>
bif v14 then(
(ziN v0 0 (w64 ((v0.length:Int) - 1))).bind fun y5=>
zgd n y5)
else(
some v0))
def zbP(N:Nat)(p0:(List Int)):Option (List Int):=
((zgd N p0:Option (List Int))).bind fun v0=>
some v0
theorem zbM{N:Nat}{p0:(List Int)}{r:(List Int)}(h:zbP N p0=some r):Lx.FnA mC 179 [(fzE false (eI .i64) p0)] (fzE false (eI .i64) r):=by
 refine zqN (by conv=>lhs; cbv) ?_;unfold zbP at h;refine zaa ?_;try simp only[rnA,Nat.reduceLT]
 obtain⟨o4,j4,h⟩:=bind_some h;obtain⟨T4,hT4⟩:=mkT fun a:(List Int)=>⟨21,[(0,(fzE false (eI .i64) a))],[]⟩
 refine EvL.jn T4 (fun a=>a=o4) ?_ ?_
 ·refine zaa ?_;simp only[rnA];obtain⟨T7,hT7⟩:=mkT fun a:(List Int)=>⟨21,[(0,(fzE false (eI .i64) a))],[]⟩
  refine EvL.rounds (α:=(List Int)) T7 (fun n a=>zgd n a=some o4) N p0 (by rw[hT7]; exact wm0 [] (by exact trivial)) j4 (fun _ h=>nomatch (show(none:Option (List Int))=some o4 from h)) ?_;rintro n v0 j4;simp only[zgd]at j4;rw[congrFun hT7 v0];refine zaa ?_;try simp only[rnA]
  obtain⟨o8,j8,j4⟩:=bind_some j4;obtain⟨T8,hT8⟩:=mkT fun a:Bool=>⟨21,[(0,(fzE false (eI .i64) v0)),(14,(dB a))],[]⟩
  refine EvL.jn T8 (fun a=>a=o8) ?_ ?_
  ·refine zaa ?_;try simp only[rnA,Nat.reduceEqDiff,Nat.reduceLT,reduceCtorEq,zam]
   cases c1:(decide (0<(v0.length:Int)))
   ·rw[c1,cond_false]at j8;try simp only[rnA,Nat.reduceEqDiff,Nat.reduceLT,reduceCtorEq]
    replace j8:=qaa j8; subst j8;exact lfj hT8 rfl (wm0 [] (by exact trivial))
   rw[c1,cond_true]at j8;obtain⟨x2,g3,j8⟩:=bind_some j8;try simp only[rnA,Nat.reduceEqDiff,Nat.reduceLT,reduceCtorEq,zam,zak (n:=1) (e:=(eI .i64)) rfl g3]
   replace j8:=qaa j8; subst j8;exact lfj hT8 rfl (wm0 [] (by exact trivial))
  rintro v14 rfl;rw[congrFun hT8 v14];refine zaa ?_;try simp only[rnA,reduceCtorEq]
  cases c4:v14
  ·rw[c4,cond_false]at j4;try simp only[rnA]
   replace j4:=qaa j4; subst j4;exact lfj hT4 rfl (wm0 [] (by exact trivial))
  rw[c4,cond_true]at j4;obtain⟨y5,g6,j4⟩:=bind_some j4;try simp only[rnA,Nat.reduceEqDiff,Nat.reduceLT,reduceCtorEq,zam,zrX (n:=1) (e:=(eI .i64)) rfl g6]
  exact⟨y5,j4,by rw[hT7]; exact wm0 [] (by exact trivial)⟩
 rintro v0 rfl;rw[congrFun hT4 v0];refine zaa ?_;try simp only[rnA,Nat.reduceLT,reduceCtorEq]
 replace h:=qaa h; subst h;exact zfD.ret rfl (zad _ _ (fun h=>nomatch h))
end Go.Dc
