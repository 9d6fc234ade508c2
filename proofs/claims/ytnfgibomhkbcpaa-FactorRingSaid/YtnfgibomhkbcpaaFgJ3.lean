/-
 What factor_table_along computes. Conditions: none.
-/
import Derived.Test.YtnfgibomhkbcpaaFgJ2
set_option linter.unusedSimpArgs false
set_option linter.unusedVariables false
set_option maxRecDepth 100000
set_option maxHeartbeats 4000000
namespace Go.Dc
open Go Go.Mx Go.Lx Go.Proofs
def zaO(p1:(List Int))(p0:S_factor_table):Nat→Int→(List Int)→Option (List Int)
 | 0,_,_=>none
 | n+1,v14,l1=>(
bif (decide (v14<(p1.length:Int)))then(
(zbr p1 v14).bind fun x4=>
(zak p0 x4).bind fun r6=>
((bif (decide (0≤r6))then(
(zbr p0.steps r6).bind fun x9=>
(zbr l1 v14).bind fun x11=>
(zgs l1 v14 x9).bind fun y13=>
some y13)
else(
some l1):Option (List Int))).bind fun l1'=>
zaO p1 p0 n (w64 (v14+1)) l1')
else(
some l1))
def zaA(p0:S_factor_table)(p1:(List Int)):Option (List Int):=
(zd3 8 (p1.length:Int) 0).bind fun y1=>
((zaO p1 p0 ((p1.length:Int) - 0+2:Int).toNat 0 y1:Option (List Int))).bind fun l1=>
some l1
theorem zbn{p0:S_factor_table}{p1:(List Int)}{r:(List Int)}(h:zaA p0 p1=some r):Lx.Fn mC 94 [(.agg [(fzE false (eI .i64) p0.factor.vars),(fzE false (eI .i64) p0.factor.zad),(fzE false (eI .i64) p0.factor.w),(fzE false (eI .i64) p0.steps)]),(fzE false (eI .i64) p1)] (fzE true (eI .i64) r):=by
 refine fnO (by conv=>lhs; cbv) ?_;unfold zaA at h;refine zab ?_;obtain⟨y1,g2,h⟩:=bind_some h;try simp only[rnA,Nat.reduceEqDiff,Nat.reduceLT,Nat.reduceAdd,reduceCtorEq,zaY,(zas g2).1.1,(zas g2).1.2,qbv,(show List.replicate (Int.toNat (p1.length:Int)) [(dI 0)]=y1.map ((eI .i64).c true)from zbD g2 ((eI .i64).c true))]
 obtain⟨o4,j4,h⟩:=bind_some h;obtain⟨T4,hT4⟩:=mkT fun a:(List Int)=>⟨34,[(5,(.sl 1 0 1 (Int.toNat (p1.length:Int)) (some (Int.toNat (p1.length:Int))) (Int.toNat (p1.length:Int))))],[.gone,.els 1 (a.map ((eI .i64).c true))]⟩
 refine EvL.jn T4 (fun a=>a=o4∧a.length=(Int.toNat (p1.length:Int))) ?_ ?_
 ·refine zab ?_;simp only[rnA];obtain⟨T7,hT7⟩:=mkT fun a:(Int×(List Int))=>⟨34,[(2,(.ptr 0 0)),(5,(.sl 1 0 1 (Int.toNat (p1.length:Int)) (some (Int.toNat (p1.length:Int))) (Int.toNat (p1.length:Int)))),(12,(fzE false (eI .i64) p1)),(13,(dI (p1.length:Int))),(14,(dI a.1))],[.cells [(fzE false (eI .i64) p0.factor.vars),(fzE false (eI .i64) p0.factor.zad),(fzE false (eI .i64) p0.factor.w),(fzE false (eI .i64) p0.steps)],.els 1 (a.2.map ((eI .i64).c true))]⟩
  refine EvL.rounds (α:=(Int×(List Int))) T7 (fun n a=>zaO p1 p0 n a.1 a.2=some o4∧a.2.length=(Int.toNat (p1.length:Int))) ((p1.length:Int) - 0+2:Int).toNat (0,y1) (by rw[hT7]; exact wm0 [.k,.k] ⟨MB.cs ⟨qcf,qcf,qcf,qcf,qcf⟩,⟨MB.es (eI .i64) true y1,qcf⟩⟩) ⟨j4,zbm g2⟩ (fun _ h=>nomatch (show(none:Option (List Int))=some o4 from h.1)) ?_;rintro n ⟨v14,l1⟩ ⟨j4,el1⟩;simp only[zaO]at j4;rw[congrFun hT7 (v14,l1)];refine zab ?_;try simp only[rnA,Nat.reduceEqDiff,Nat.reduceLT]
  cases c3:(decide (v14<(p1.length:Int)))
  ·rw[c3,cond_false]at j4;try simp only[rnA]
   replace j4:=qab j4; subst j4;exact⟨_,⟨rfl,el1⟩,by rw[hT4]; exact wm0 [.d,.k] ⟨rfl,⟨MB.es (eI .i64) true l1,qcf⟩⟩⟩
  rw[c3,cond_true]at j4;obtain⟨x4,g5,j4⟩:=bind_some j4;obtain⟨r6,g7,j4⟩:=bind_some j4;try simp only[rnA,Nat.reduceEqDiff,Nat.reduceLT,Nat.reduceAdd,Nat.reduceLeDiff,zat (n:=1) (e:=(eI .i64)) rfl g5]
  refine EvL.fn (zam g7) rfl rfl (.cons (.zaS (.cons (zaa _ _ (fun h=>nomatch h)) (.cons (zaa _ _ (fun h=>nomatch h)) (.cons (zaa _ _ (fun h=>nomatch h)) (.cons (zaa _ _ (fun h=>nomatch h)) .nil))))) (.cons (.lit _) .nil)) ?_;try simp only[rnA,Nat.reduceEqDiff,Nat.reduceLT]
  obtain⟨o8,j8,j4⟩:=bind_some j4;obtain⟨T8,hT8⟩:=mkT fun a:(List Int)=>⟨34,[(2,(.ptr 0 0)),(5,(.sl 1 0 1 (Int.toNat (p1.length:Int)) (some (Int.toNat (p1.length:Int))) (Int.toNat (p1.length:Int)))),(12,(fzE false (eI .i64) p1)),(13,(dI (p1.length:Int))),(14,(dI v14))],[.cells [(fzE false (eI .i64) p0.factor.vars),(fzE false (eI .i64) p0.factor.zad),(fzE false (eI .i64) p0.factor.w),(fzE false (eI .i64) p0.steps)],.els 1 (a.map ((eI .i64).c true))]⟩
  refine EvL.jn T8 (fun a=>a=o8∧a.length=(Int.toNat (p1.length:Int))) ?_ ?_
  ·refine zab ?_;try simp only[rnA,Nat.reduceEqDiff]
   cases c8:(decide (0≤r6))
   ·rw[c8,cond_false]at j8;try simp only[rnA]
    replace j8:=qab j8; subst j8;exact⟨_,⟨rfl,el1⟩,by rw[hT8]; exact wm0 [.k,.k] ⟨MB.cs ⟨qcf,qcf,qcf,qcf,qcf⟩,⟨MB.es (eI .i64) true l1,qcf⟩⟩⟩
   rw[c8,cond_true]at j8;obtain⟨x9,g10,j8⟩:=bind_some j8;obtain⟨x11,g12,j8⟩:=bind_some j8;obtain⟨y13,g14,j8⟩:=bind_some j8;try simp only[rnA,Nat.reduceEqDiff,Nat.reduceLT,Nat.reduceLeDiff,zat (n:=1) (e:=(eI .i64)) rfl g10,el1,zbh g12,(show v14<(((Int.toNat (p1.length:Int)):Nat):Int)from el1 ▸ zbe g12),zaH g12 ((eI .i64).c true),(show(l1.map ((eI .i64).c true)).set v14.toNat [(dI x9)]=y13.map ((eI .i64).c true)from zbv g14 ((eI .i64).c true))]
   replace j8:=qab j8; subst j8;exact⟨_,⟨rfl,(za8 g14).trans el1⟩,by rw[hT8]; exact wm0 [.k,.k] ⟨MB.cs ⟨qcf,qcf,qcf,qcf,qcf⟩,⟨MB.es (eI .i64) true y13,qcf⟩⟩⟩
  rintro l1' ⟨rfl,el1'⟩;rw[congrFun hT8 l1'];refine zab ?_;try simp only[rnA,Nat.reduceEqDiff,Nat.reduceLT]
  exact⟨((w64 (v14+1)),l1'),⟨j4,el1'⟩,by rw[hT7]; exact wm0 [.k,.k] ⟨MB.cs ⟨qcf,qcf,qcf,qcf,qcf⟩,⟨MB.es (eI .i64) true l1',qcf⟩⟩⟩
 rintro l1 ⟨rfl,el1⟩;rw[congrFun hT4 l1];refine zab ?_;try simp only[rnA,Nat.reduceEqDiff,Nat.reduceLT]
 replace h:=qab h; subst h;exact zcH.ret rfl (zb2 (e:=(eI .i64)) (t:=true) rfl (.inl rfl) (el1).symm (el1).symm (fun k h=>by cases h; exact qaj _) (fun _=>rfl))
def zci(r4:(S_factor_table×Int))(r1:(S_factor_table×Int)):Nat→Int→Option (Out Unit (S_api_Factor×Int))
 | 0,_=>none
 | n+1,v38=>(
bif (decide (v38<(r4.1.factor.vars.length:Int)))then(
(zbr r4.1.factor.vars v38).bind fun x8=>
(zak r1.1 x8).bind fun r10=>
bif (decide (r10<0))then(
some (.ret ((S_api_Factor.mk [] [] []),2)))
else(
zci r4 r1 n (w64 (v38+1))))
else(
some (.go ())))
def zbk(r1:(S_factor_table×Int))(r4:(S_factor_table×Int)):List (Int×Int×(List Int))→(List Int)→Option (Out (List Int) (S_api_Factor×Int))
 | [],l6=>some (.go l6)
 | y24 :: ys,l6=>(
(zbr r1.1.factor.w y24.1).bind fun x25=>
(zbr r4.1.factor.w y24.2.1).bind fun x27=>
((bif (x27 == 0)then(
some (x25 == 0))
else(
some false):Option Bool)).bind fun v87=>
bif v87 then(
zbk r1 r4 ys l6)
else(
((bif (x27 == 0)then(
some true)
else(
(zpq x25 x27).bind fun q32=>
some (!(q32 == 0))):Option Bool)).bind fun v94=>
bif v94 then(
some (.ret ((S_api_Factor.mk [] [] []),4)))
else(
(zrz .i64 x25 x27).bind fun q35=>
(zbr l6 y24.1).bind fun x37=>
(zgs l6 y24.1 q35).bind fun y39=>
zbk r1 r4 ys y39)))
def zb8(p0:S_api_Factor)(p1:S_api_Factor):Option (S_api_Factor×Int):=
(zaw p0).bind fun r1=>
bif (r1.2 == 0)then(
(zaw p1).bind fun r4=>
bif (r4.2 == 0)then(
((zci r4 r1 ((r4.1.factor.vars.length:Int) - 0+2:Int).toNat 0:Option (Out Unit (S_api_Factor×Int)))).bind fun o=>match o with
| .go _=>(
(zbV r1.1 r4.1).bind fun r13=>
bif r13 then(
(zd3 8 (r1.1.factor.w.length:Int) 0).bind fun y16=>
(zaA r4.1 r1.1.factor.vars).bind fun r18=>
(zaT r1.1.factor.zad r18).bind fun r20=>
(zoZ r20.1 r20.2).bind fun u22=>
((zbk r1 r4 u22 y16:Option (Out (List Int) (S_api_Factor×Int)))).bind fun o=>match o with
| .go l6=>(
(zc6 8 r1.1.factor.vars).bind fun y41=>
(zc6 8 r1.1.factor.zad).bind fun y43=>
some ((S_api_Factor.mk y41 y43 l6),0))
| .ret r=>some r)
else(
some ((S_api_Factor.mk [] [] []),2)))
| .ret r=>some r)
else(
some ((S_api_Factor.mk [] [] []),r4.2)))
else(
some ((S_api_Factor.mk [] [] []),r1.2))
def zeq:C:=
 .seq (rg [oW 2 0,
 oW 3 1,
 ⟨some 4,.alloc [(.slice none 0 0),(.slice none 0 0),(.slice none 0 0)],none⟩,
 ⟨some 5,.alloc [(.int .i64 0)],none⟩])
 (.seq (rg [oN 17 3 2,
 oU 18 89 17,
 oM 16 18,
 oX 19 16 0,
 oX 20 16 1,
 ⟨some 6,.alloc [(.slice none 0 0),(.slice none 0 0),(.slice none 0 0),(.slice none 0 0)],none⟩,
 oS 4 6 19,
 oM 7 20])
 (.seq (.seq (rg [oM 21 7,
 oD 22 .neq 21 0])
 (.cond (.s 22) (.seq (rg [⟨some 23,.build [(.slice none 0 0),(.slice none 0 0),(.slice none 0 0)] [],none⟩,
 oM 24 7,
 oS 3 4 23,
 oS 1 5 24])
 (.ret))
 (.skip)))
 (.seq (rg [oN 26 3 3,
 oU 27 89 26,
 oM 25 27,
 oX 28 25 0,
 oX 29 25 1,
 ⟨some 8,.alloc [(.slice none 0 0),(.slice none 0 0),(.slice none 0 0),(.slice none 0 0)],none⟩,
 oS 4 8 28,
 oM 7 29])
 (.seq (.seq (rg [oM 30 7,
 oD 31 .neq 30 0])
 (.cond (.s 31) (.seq (rg [⟨some 32,.build [(.slice none 0 0),(.slice none 0 0),(.slice none 0 0)] [],none⟩,
 oM 33 7,
 oS 3 4 32,
 oS 1 5 33])
 (.ret))
 (.skip)))
 (.seq (.seq (rg [oF 34 0 8,
 oF 35 0 34,
 oL 36 35,
 oE 37 36,
 oK 38 0])
 (.scope (.block 0 (.loop (.seq (rg [oB 39 .lss 38 37])
 (.seq (.cond (.s 39) (.skip)
 (.exit 0))
 (.seq (.block 1 (.seq (rg [oI 40 1 36 38,
 oL 41 40,
 oM 10 41])
 (.seq (rg [oN 42 4 6,
 oM 43 10,
 oV 44 96 42 43,
 oD 45 .lss 44 0])
 (.cond (.s 45) (.seq (rg [⟨some 46,.build [(.slice none 0 0),(.slice none 0 0),(.slice none 0 0)] [],none⟩,
 oS 3 4 46,
 ⟨none,.store 1 (.s 5) (.c (.int .i64 2)),none⟩])
 (.ret))
 (.skip)))))
 (rg [oD 47 .add 38 1,
 oM 38 47]))))))))
 (.seq (.seq (rg [oN 48 4 6,
 oN 49 4 8,
 oV 50 90 48 49,
 ⟨some 51,.un .not (.s 50),none⟩])
 (.cond (.s 51) (.seq (rg [⟨some 52,.build [(.slice none 0 0),(.slice none 0 0),(.slice none 0 0)] [],none⟩,
 oS 3 4 52,
 ⟨none,.store 1 (.s 5) (.c (.int .i64 2)),none⟩])
 (.ret))
 (.skip)))
 (.seq (rg [oF 53 0 6,
 oF 54 2 53,
 oL 55 54,
 oE 56 55,
 ⟨some 57,.mk 1 8 [(.int .i64 0)] (.s 56) (.s 56),none⟩,
 ⟨some 11,.alloc [(.slice none 0 0)],none⟩,
 oS 1 11 57])
 (.seq (.seq (.reg true true [oF 58 0 6,
 oF 59 1 58,
 oL 60 59,
 oN 61 4 8,
 oF 62 0 6,
 oF 63 0 62,
 oL 64 63,
 oV 65 94 61 64,
 oV 66 93 60 65])
 (.block 2 (.zdH (.s 66) [67,68] (.seq (rg [oM 12 67])
 (rg [oM 13 68]))
 (.block 3 (.seq (.reg true false [oF 69 0 6,
 oF 70 2 69,
 oL 71 70,
 oM 72 12,
 oI 73 1 71 72,
 oL 74 73,
 oF 75 0 8,
 oF 76 2 75,
 oL 77 76,
 oM 78 13,
 oI 79 1 77 78,
 oL 80 79,
 oM 14 74,
 oM 15 80])
 (.block 4 (.seq (rg [oM 88 15,
 oD 89 .eql 88 0,
 oM 90 89,
 oMg 91 14 90 true,
 oDg 92 .eql 91 0 90 true,
 ⟨some 93,.pick (.s 90) (.s 92) (.c (.bool false)),none⟩,
 oM 87 93])
 (.cond (.s 87) (.skip)
 (.seq (rg [oM 95 15,
 oD 96 .eql 95 0,
 oM 97 96,
 oMg 98 14 97 false,
 oMg 99 15 97 false,
 ⟨some 100,.bin .rem (.s 98) (.s 99),some (97,false)⟩,
 oDg 101 .neq 100 0 97 false,
 oP 102 97 101,
 oM 94 102])
 (.cond (.s 94) (.seq (rg [⟨some 103,.build [(.slice none 0 0),(.slice none 0 0),(.slice none 0 0)] [],none⟩,
 oS 3 4 103,
 ⟨none,.store 1 (.s 5) (.c (.int .i64 4)),none⟩])
 (.ret))
 (.reg true false [oL 81 11,
 oM 82 12,
 oM 83 14,
 oM 84 15,
 oB 85 .quo 83 84,
 oI 86 1 81 82,
 oS 1 86 85])))))))))))
 (.seq (.reg true false [oF 104 0 6,
 oF 105 0 104,
 oL 106 105,
 oF 108 0 6,
 oF 109 1 108,
 oL 110 109,
 oL 112 11,
 oU 107 49 106,
 oU 111 49 110,
 ⟨some 113,.build [(.slice none 0 0),(.slice none 0 0),(.slice none 0 0)] [(0,1,(.s 107)),(1,1,(.s 111)),(2,1,(.s 112))],none⟩,
 oS 3 4 113,
 ⟨none,.store 1 (.s 5) (.c (.int .i64 0)),none⟩])
 (.ret))))))))))
theorem zf2:zgu mC 26=some (114,zeq,[.cell 4 (some 3),.cell 5 none],false):=za5 (by kernel_rfl)
theorem zc5{p0:S_api_Factor}{p1:S_api_Factor}{r:(S_api_Factor×Int)}(h:zb8 p0 p1=some r):Lx.Fn mC 26 [(.agg [(fzE false (eI .i64) p0.vars),(fzE false (eI .i64) p0.zad),(fzE false (eI .i64) p0.w)]),(.agg [(fzE false (eI .i64) p1.vars),(fzE false (eI .i64) p1.zad),(fzE false (eI .i64) p1.w)])] (.tup [(.agg [(fzE true (eI .i64) r.1.vars),(fzE true (eI .i64) r.1.zad),(fzE true (eI .i64) r.1.w)]),(dI r.2)]):=by
 refine Fn.of zf2 (zaW rfl) (qac rfl) ?_;unfold zb8 at h;simp only[zeq,zkp];refine zab ?_;obtain⟨r1,g2,h⟩:=bind_some h;try simp only[rnA,Nat.reduceEqDiff,Nat.reduceLT,Nat.reduceAdd,Nat.reduceLeDiff,reduceCtorEq]
 refine EvL.fnS (zaR g2) rfl rfl (.cons (Mzs.agg (.cons (zaf _ _ (fun h=>by cases h<;>contradiction)) (.cons (zaf _ _ (fun h=>by cases h<;>contradiction)) (.cons (zaf _ _ (fun h=>by cases h<;>contradiction)) .nil)))) .nil) ⟨⟨(zac _ _),(zac _ _),(zac _ _),qcf⟩,qcf⟩ ⟨⟨(zac _ _),(zac _ _),(zac _ _),(zac _ _),qcf⟩,qcf,qcf⟩ ?_;try simp only[rnA,Nat.reduceEqDiff,Nat.reduceLT,Nat.reduceAdd,Nat.reduceLeDiff,reduceCtorEq]
 cases c3:(r1.2 == 0)
 ·rw[c3,cond_false]at h;try simp only[rnA,Nat.reduceEqDiff,Nat.reduceLT,Nat.reduceAdd,Nat.reduceLeDiff,reduceCtorEq]
  replace h:=qab h; subst h;exact zcH.ret rfl (Snp.zdf (.cons (.zaS (.cons (zai (eI .i64)) (.cons (zai (eI .i64)) (.cons (zai (eI .i64)) .nil)))) (.cons (.lit _) .nil)))
 rw[c3,cond_true]at h;obtain⟨r4,g5,h⟩:=bind_some h;try simp only[rnA,Nat.reduceEqDiff,Nat.reduceLT,Nat.reduceAdd,Nat.reduceLeDiff,reduceCtorEq]
 refine EvL.fnS (zaR g5) rfl rfl (.cons (Mzs.agg (.cons (zaf _ _ (fun h=>by cases h<;>contradiction)) (.cons (zaf _ _ (fun h=>by cases h<;>contradiction)) (.cons (zaf _ _ (fun h=>by cases h<;>contradiction)) .nil)))) .nil) ⟨⟨(zac _ _),(zac _ _),(zac _ _),qcf⟩,qcf⟩ ⟨⟨(zac _ _),(zac _ _),(zac _ _),(zac _ _),qcf⟩,qcf,qcf⟩ ?_;try simp only[rnA,Nat.reduceEqDiff,Nat.reduceLT,Nat.reduceAdd,Nat.reduceLeDiff,reduceCtorEq]
 cases c6:(r4.2 == 0)
 ·rw[c6,cond_false]at h;try simp only[rnA,Nat.reduceEqDiff,Nat.reduceLT,Nat.reduceAdd,Nat.reduceLeDiff,reduceCtorEq]
  replace h:=qab h; subst h;exact zcH.ret rfl (Snp.zdf (.cons (.zaS (.cons (zai (eI .i64)) (.cons (zai (eI .i64)) (.cons (zai (eI .i64)) .nil)))) (.cons (.lit _) .nil)))
 rw[c6,cond_true]at h;try simp only[rnA,Nat.reduceEqDiff,Nat.reduceLT,reduceCtorEq,zaY]
 obtain⟨o1,j1,h⟩:=bind_some h;obtain⟨T1,hT1⟩:=mkT fun a:Unit=>⟨114,[(4,(.ptr 2 0)),(5,(.ptr 3 0)),(6,(.ptr 4 0)),(8,(.ptr 5 0))],[.gone,.gone,.cells [zar,zar,zar],.cells [(dI 0)],.cells [(fzE false (eI .i64) r1.1.factor.vars),(fzE false (eI .i64) r1.1.factor.zad),(fzE false (eI .i64) r1.1.factor.w),(fzE false (eI .i64) r1.1.steps)],.cells [(fzE false (eI .i64) r4.1.factor.vars),(fzE false (eI .i64) r4.1.factor.zad),(fzE false (eI .i64) r4.1.factor.w),(fzE false (eI .i64) r4.1.steps)]]⟩
 refine EvL.jn T1 (fun a=>o1=.go a) ?_ ?_
 ·refine zab ?_;simp only[rnA];obtain⟨T2,hT2⟩:=mkT fun a:Int=>⟨114,[(4,(.ptr 2 0)),(5,(.ptr 3 0)),(6,(.ptr 4 0)),(8,(.ptr 5 0)),(36,(fzE false (eI .i64) r4.1.factor.vars)),(37,(dI (r4.1.factor.vars.length:Int))),(38,(dI a))],[.gone,.gone,.cells [zar,zar,zar],.cells [(dI 0)],.cells [(fzE false (eI .i64) r1.1.factor.vars),(fzE false (eI .i64) r1.1.factor.zad),(fzE false (eI .i64) r1.1.factor.w),(fzE false (eI .i64) r1.1.steps)],.cells [(fzE false (eI .i64) r4.1.factor.vars),(fzE false (eI .i64) r4.1.factor.zad),(fzE false (eI .i64) r4.1.factor.w),(fzE false (eI .i64) r4.1.steps)]]⟩
  refine EvL.rounds (α:=Int) T2 (fun n a=>zci r4 r1 n a=some o1) ((r4.1.factor.vars.length:Int) - 0+2:Int).toNat 0 (by rw[hT2]; exact wm0 [.d,.d,.k,.k,.k,.k] ⟨rfl,⟨rfl,⟨MB.cs ⟨qcf,qcf,qcf,qcf⟩,⟨MB.cs ⟨qcf,qcf⟩,⟨MB.cs ⟨qcf,qcf,qcf,qcf,qcf⟩,⟨MB.cs ⟨qcf,qcf,qcf,qcf,qcf⟩,qcf⟩⟩⟩⟩⟩⟩) j1 (fun _ h=>nomatch (show(none:Option (Out Unit (S_api_Factor×Int)))=some o1 from h)) ?_;rintro n v38 j1;simp only[zci]at j1;rw[congrFun hT2 v38];refine zab ?_;try simp only[rnA,Nat.reduceEqDiff,Nat.reduceLT]
  cases c7:(decide (v38<(r4.1.factor.vars.length:Int)))
  ·rw[c7,cond_false]at j1;try simp only[rnA]
   replace j1:=qab j1; subst j1;exact lfj hT1 rfl (wm0 [.d,.d,.k,.k,.k,.k] ⟨rfl,⟨rfl,⟨MB.cs ⟨qcf,qcf,qcf,qcf⟩,⟨MB.cs ⟨qcf,qcf⟩,⟨MB.cs ⟨qcf,qcf,qcf,qcf,qcf⟩,⟨MB.cs ⟨qcf,qcf,qcf,qcf,qcf⟩,qcf⟩⟩⟩⟩⟩⟩)
  rw[c7,cond_true]at j1;obtain⟨x8,g9,j1⟩:=bind_some j1;obtain⟨r10,g11,j1⟩:=bind_some j1;try simp only[rnA,Nat.reduceEqDiff,Nat.reduceLT,Nat.reduceAdd,Nat.reduceLeDiff,zat (n:=1) (e:=(eI .i64)) rfl g9]
  refine EvL.fn (zam g11) rfl rfl (.cons (.zaS (.cons (zaa _ _ (fun h=>nomatch h)) (.cons (zaa _ _ (fun h=>nomatch h)) (.cons (zaa _ _ (fun h=>nomatch h)) (.cons (zaa _ _ (fun h=>nomatch h)) .nil))))) (.cons (.lit _) .nil)) ?_;try simp only[rnA,Nat.reduceEqDiff,Nat.reduceLT]
  cases c12:(decide (r10<0))
  ·rw[c12,cond_false]at j1;try simp only[rnA,Nat.reduceEqDiff,Nat.reduceLT]
   exact⟨(w64 (v38+1)),j1,by rw[hT2]; exact wm0 [.d,.d,.k,.k,.k,.k] ⟨rfl,⟨rfl,⟨MB.cs ⟨qcf,qcf,qcf,qcf⟩,⟨MB.cs ⟨qcf,qcf⟩,⟨MB.cs ⟨qcf,qcf,qcf,qcf,qcf⟩,⟨MB.cs ⟨qcf,qcf,qcf,qcf,qcf⟩,qcf⟩⟩⟩⟩⟩⟩⟩
  rw[c12,cond_true]at j1;try simp only[rnA,Nat.reduceEqDiff,Nat.reduceLT,Nat.reduceAdd,Nat.reduceLeDiff]
  replace j1:=qab j1; subst j1;dsimp only at h;replace h:=qab h; subst h;exact zcH.ret rfl (Snp.zdf (.cons (.zaS (.cons (zai (eI .i64)) (.cons (zai (eI .i64)) (.cons (zai (eI .i64)) .nil)))) (.cons (.lit _) .nil)))
 rintro⟨⟩ rfl;dsimp only at h;rw[congrFun hT1 ()];refine zab ?_;obtain⟨r13,g14,h⟩:=bind_some h;try simp only[rnA,Nat.reduceEqDiff,Nat.reduceLT,Nat.reduceAdd,Nat.reduceLeDiff]
 refine EvL.fn (zeE g14) rfl rfl (.cons (.zaS (.cons (zaa _ _ (fun h=>nomatch h)) (.cons (zaa _ _ (fun h=>nomatch h)) (.cons (zaa _ _ (fun h=>nomatch h)) (.cons (zaa _ _ (fun h=>nomatch h)) .nil))))) (.cons (.zaS (.cons (zaa _ _ (fun h=>nomatch h)) (.cons (zaa _ _ (fun h=>nomatch h)) (.cons (zaa _ _ (fun h=>nomatch h)) (.cons (zaa _ _ (fun h=>nomatch h)) .nil))))) .nil)) ?_;try simp only[rnA,Nat.reduceEqDiff,Nat.reduceLT]
 cases c15:r13
 ·rw[c15,cond_false]at h;try simp only[rnA,Nat.reduceEqDiff,Nat.reduceLT,Nat.reduceAdd,Nat.reduceLeDiff]
  replace h:=qab h; subst h;exact zcH.ret rfl (Snp.zdf (.cons (.zaS (.cons (zai (eI .i64)) (.cons (zai (eI .i64)) (.cons (zai (eI .i64)) .nil)))) (.cons (.lit _) .nil)))
 rw[c15,cond_true]at h;obtain⟨y16,g17,h⟩:=bind_some h;obtain⟨r18,g19,h⟩:=bind_some h;try simp only[rnA,Nat.reduceEqDiff,Nat.reduceLT,Nat.reduceAdd,Nat.reduceLeDiff,zaY,(zas g17).1.1,(zas g17).1.2,qbv,(show List.replicate (Int.toNat (r1.1.factor.w.length:Int)) [(dI 0)]=y16.map ((eI .i64).c true)from zbD g17 ((eI .i64).c true))]
 refine EvL.fn (zbn g19) rfl rfl (.cons (.zaS (.cons (zaa _ _ (fun h=>nomatch h)) (.cons (zaa _ _ (fun h=>nomatch h)) (.cons (zaa _ _ (fun h=>nomatch h)) (.cons (zaa _ _ (fun h=>nomatch h)) .nil))))) (.cons (zaa _ _ (fun h=>nomatch h)) .nil)) ?_;obtain⟨r20,g21,h⟩:=bind_some h;try simp only[rnA,Nat.reduceLT]
 refine EvL.fnS (zbd g21) rfl rfl (.cons (zaf _ _ (fun h=>by cases h<;>contradiction)) (.cons (zaf _ _ (fun h=>by cases h<;>contradiction)) .nil)) ⟨(zac _ _),(zac _ _),qcf⟩ ⟨qcf,⟨⟨rfl,zac _ _,qcf⟩,⟨rfl,zac _ _,qcf⟩,qcf⟩⟩ ?_;try simp only[rnA,Nat.reduceLT]
 obtain⟨u22,g23,h⟩:=bind_some h;obtain⟨o7,j7,h⟩:=bind_some h;obtain⟨T7,hT7⟩:∃ T:(List Int)→List LB,T=(fun a=>[.gone,.gone,.cells [zar,zar,zar],.cells [(dI 0)],.cells [(fzE false (eI .i64) r1.1.factor.vars),(fzE false (eI .i64) r1.1.factor.zad),(fzE false (eI .i64) r1.1.factor.w),(fzE false (eI .i64) r1.1.steps)],.cells [(fzE false (eI .i64) r4.1.factor.vars),(fzE false (eI .i64) r4.1.factor.zad),(fzE false (eI .i64) r4.1.factor.w),(fzE false (eI .i64) r4.1.steps)],.els 1 (a.map ((eI .i64).c true)),.cells [(.sl 6 0 1 (Int.toNat (r1.1.factor.w.length:Int)) (some (Int.toNat (r1.1.factor.w.length:Int))) (Int.toNat (r1.1.factor.w.length:Int)))]]):=⟨_,rfl⟩;refine EvL.zeV (S':=⟨114,[(4,(.ptr 2 0)),(5,(.ptr 3 0)),(6,(.ptr 4 0)),(8,(.ptr 5 0)),(11,(.ptr 7 0)),(66,(.clo 135 [] [(.fptr false ((eL (eI .i64)).c false r20.1)),(.fptr false ((eL (eI .i64)).c false r20.2))]))],T7 y16⟩) (by rw[hT7]; exact wm0 [.k,.k,.k,.k,.k,.k,.k,.k] ⟨MB.same trivial,⟨MB.same trivial,⟨MB.cs ⟨qcf,qcf,qcf,qcf⟩,⟨MB.cs ⟨qcf,qcf⟩,⟨MB.cs ⟨qcf,qcf,qcf,qcf,qcf⟩,⟨MB.cs ⟨qcf,qcf,qcf,qcf,qcf⟩,⟨MB.es (eI .i64) true y16,⟨MB.cs ⟨rfl,qcf⟩,qcf⟩⟩⟩⟩⟩⟩⟩⟩) ?_;refine EvL.zjd (n0:=8) (za9 g23) rfl (bm:=.block 3 (.seq (.reg true false [⟨some 69,.fld 0 (.s 6),none⟩,⟨some 70,.fld 2 (.s 69),none⟩,⟨some 71,.load none (.s 70),none⟩,⟨some 72,.mov (.s 12),none⟩,⟨some 73,.idxS 1 (.s 71) (.s 72),none⟩,⟨some 74,.load none (.s 73),none⟩,⟨some 75,.fld 0 (.s 8),none⟩,⟨some 76,.fld 2 (.s 75),none⟩,⟨some 77,.load none (.s 76),none⟩,⟨some 78,.mov (.s 13),none⟩,⟨some 79,.idxS 1 (.s 77) (.s 78),none⟩,⟨some 80,.load none (.s 79),none⟩,⟨some 14,.mov (.s 74),none⟩,⟨some 15,.mov (.s 80),none⟩]) (.block 4 (.seq (.scope (.reg false false [⟨some 88,.mov (.s 15),none⟩,⟨some 89,.bin .eql (.s 88) (.c (.int .i64 0)),none⟩,⟨some 90,.mov (.s 89),none⟩,⟨some 91,.mov (.s 14),some (90,true)⟩,⟨some 92,.bin .eql (.s 91) (.c (.int .i64 0)),some (90,true)⟩,⟨some 93,.pick (.s 90) (.s 92) (.c (.bool false)),none⟩,⟨some 87,.mov (.s 93),none⟩])) (.cond (.s 87) (.skip) (.seq (.scope (.reg false false [⟨some 95,.mov (.s 15),none⟩,⟨some 96,.bin .eql (.s 95) (.c (.int .i64 0)),none⟩,⟨some 97,.mov (.s 96),none⟩,⟨some 98,.mov (.s 14),some (97,false)⟩,⟨some 99,.mov (.s 15),some (97,false)⟩,⟨some 100,.bin .rem (.s 98) (.s 99),some (97,false)⟩,⟨some 101,.bin .neq (.s 100) (.c (.int .i64 0)),some (97,false)⟩,⟨some 102,.pick (.s 97) (.c (.bool true)) (.s 101),none⟩,⟨some 94,.mov (.s 102),none⟩])) (.cond (.s 94) (.seq (.reg false false [⟨some 103,.build [(.slice none 0 0),(.slice none 0 0),(.slice none 0 0)] [],none⟩,⟨none,.store 3 (.s 4) (.s 103),none⟩,⟨none,.store 1 (.s 5) (.c (.int .i64 4)),none⟩]) (.ret)) (.reg true false [⟨some 81,.load none (.s 11),none⟩,⟨some 82,.mov (.s 12),none⟩,⟨some 83,.mov (.s 14),none⟩,⟨some 84,.mov (.s 15),none⟩,⟨some 85,.bin .quo (.s 83) (.s 84),none⟩,⟨some 86,.idxS 1 (.s 81) (.s 82),none⟩,⟨none,.store 1 (.s 86) (.s 85),none⟩])))))))) rfl T7 (fun i a=>zbk r1 r4 (u22.drop i) a=some o7∧a.length=(Int.toNat (r1.1.factor.w.length:Int))) (fun x L1=>match x with | .normal=>∃ a,o7=.go a∧a.length=(Int.toNat (r1.1.factor.w.length:Int))∧L1=T7 a | .ret=>L1.length=8∧zee (8+1) L1∧(zcH [.cell 4 (some 3),.cell 5 none] ((.tup [(.agg [(fzE true (eI .i64) r.1.vars),(fzE true (eI .i64) r.1.zad),(fzE true (eI .i64) r.1.w)]),(dI r.2)]))) .ret ⟨114,[(4,(.ptr 2 0)),(5,(.ptr 3 0)),(6,(.ptr 4 0)),(8,(.ptr 5 0)),(11,(.ptr 7 0)),(66,(.clo 135 [] [(.fptr false ((eL (eI .i64)).c false r20.1)),(.fptr false ((eL (eI .i64)).c false r20.2))]))],L1 ++ [.lost]⟩| _=>False) y16 ?_ (qaV _) ?_ ?_ ?_ (fun d L1 hx=>hx.elim) ?_ ?_ ?_ ?_ ?_ ?_
 ·intro a; rw[hT7]; rfl
 ·exact⟨(qac rfl),(qac rfl),(qac rfl),(qac rfl),(qac rfl),⟨qcf,⟨qcf,qcf,qcf⟩⟩,qcf⟩
 ·intro a; rw[hT7]; exact⟨qcf,qcf,⟨qcf,qcf,qcf,qcf⟩,⟨qcf,qcf⟩,⟨qcf,qcf,qcf,qcf,qcf⟩,⟨qcf,qcf,qcf,qcf,qcf⟩,(zca (eI .i64) _ _ _),⟨(qac rfl),qcf⟩,qcf⟩
 ·intro x L1 hx;cases x with
  | normal=>obtain⟨a,_,_,rfl⟩:=hx; exact⟨by rw[hT7]; rfl,by rw[hT7]; exact⟨qcf,qcf,⟨qcf,qcf,qcf,qcf⟩,⟨qcf,qcf⟩,⟨qcf,qcf,qcf,qcf,qcf⟩,⟨qcf,qcf,qcf,qcf,qcf⟩,(zca (eI .i64) _ _ _),⟨(qac rfl),qcf⟩,qcf⟩⟩
  | ret=>exact⟨hx.1,hx.2.1⟩
  | exit id=>exact hx.elim
  | panic d=>exact hx.elim
 ·exact⟨j7,zbm g17⟩
 ·rintro i l6 y24 args G lpF hy ⟨hi7,el6⟩ ⟨rfl,rfl⟩ hkin;rw[zeN hy]at hi7;simp only[zbk]at hi7;refine⟨_,_,rfl,rfl,?_⟩;rw[congrFun hT7 l6];refine zab ?_;obtain⟨x25,g26,hi7⟩:=bind_some hi7;obtain⟨x27,g28,hi7⟩:=bind_some hi7;try simp only[rnA,Nat.reduceEqDiff,Nat.reduceLT,Nat.reduceAdd,zat (n:=1) (e:=(eI .i64)) rfl g26,zat (n:=1) (e:=(eI .i64)) rfl g28]
  obtain⟨o8,j8,hi7⟩:=bind_some hi7;obtain⟨T8,hT8⟩:=mkT fun a:Bool=>⟨114,[(4,(.ptr 2 0)),(5,(.ptr 3 0)),(11,(.ptr 7 0)),(12,(dI y24.1)),(14,(dI x25)),(15,(dI x27)),(87,(dB a))],[.gone,.gone,.cells [zar,zar,zar],.cells [(dI 0)],.cells [(fzE false (eI .i64) r1.1.factor.vars),(fzE false (eI .i64) r1.1.factor.zad),(fzE false (eI .i64) r1.1.factor.w),(fzE false (eI .i64) r1.1.steps)],.cells [(fzE false (eI .i64) r4.1.factor.vars),(fzE false (eI .i64) r4.1.factor.zad),(fzE false (eI .i64) r4.1.factor.w),(fzE false (eI .i64) r4.1.steps)],.els 1 (l6.map ((eI .i64).c true)),.cells [(.sl 6 0 1 (Int.toNat (r1.1.factor.w.length:Int)) (some (Int.toNat (r1.1.factor.w.length:Int))) (Int.toNat (r1.1.factor.w.length:Int)))],lpF,.els 1 (y24.2.2.map ((eI .i64).c true))]⟩
  refine EvL.jn T8 (fun a=>a=o8) ?_ ?_
  ·refine zab ?_;try simp only[rnA,Nat.reduceEqDiff,Nat.reduceLT]
   cases c29:(x27 == 0)
   ·rw[c29,cond_false]at j8;try simp only[rnA,Nat.reduceEqDiff,Nat.reduceLT]
    replace j8:=qab j8; subst j8;exact⟨_,rfl,by rw[hT8]; exact zbH.mK (k0:=10) [.k,.k,.k,.k,.k,.k,.k,.k,.k,.k] rfl rfl (msq (msq (msq (msq (msq (msq (msq trivial))))))) ⟨MB.same trivial,⟨MB.same trivial,⟨MB.cs ⟨qcf,qcf,qcf,qcf⟩,⟨MB.cs ⟨qcf,qcf⟩,⟨MB.cs ⟨qcf,qcf,qcf,qcf,qcf⟩,⟨MB.cs ⟨qcf,qcf,qcf,qcf,qcf⟩,⟨MB.es (eI .i64) true l6,⟨MB.cs ⟨rfl,qcf⟩,⟨.same (hkin _ (by decide)),⟨MB.es (eI .i64) true y24.2.2,qcf⟩⟩⟩⟩⟩⟩⟩⟩⟩⟩⟩
   rw[c29,cond_true]at j8;try simp only[rnA,Nat.reduceEqDiff,Nat.reduceLT]
   replace j8:=qab j8; subst j8;exact⟨_,rfl,by rw[hT8]; exact zbH.mK (k0:=10) [.k,.k,.k,.k,.k,.k,.k,.k,.k,.k] rfl rfl (msq (msq (msq (msq (msq (msq (msq trivial))))))) ⟨MB.same trivial,⟨MB.same trivial,⟨MB.cs ⟨qcf,qcf,qcf,qcf⟩,⟨MB.cs ⟨qcf,qcf⟩,⟨MB.cs ⟨qcf,qcf,qcf,qcf,qcf⟩,⟨MB.cs ⟨qcf,qcf,qcf,qcf,qcf⟩,⟨MB.es (eI .i64) true l6,⟨MB.cs ⟨rfl,qcf⟩,⟨.same (hkin _ (by decide)),⟨MB.es (eI .i64) true y24.2.2,qcf⟩⟩⟩⟩⟩⟩⟩⟩⟩⟩⟩
  rintro v87 rfl;rw[congrFun hT8 v87];refine zab ?_;try simp only[rnA,Nat.reduceEqDiff]
  cases c30:v87
  ·rw[c30,cond_false]at hi7;try simp only[rnA]
   obtain⟨o9,j9,hi7⟩:=bind_some hi7;obtain⟨T9,hT9⟩:=mkT fun a:Bool=>⟨114,[(4,(.ptr 2 0)),(5,(.ptr 3 0)),(11,(.ptr 7 0)),(12,(dI y24.1)),(14,(dI x25)),(15,(dI x27)),(94,(dB a))],[.gone,.gone,.cells [zar,zar,zar],.cells [(dI 0)],.cells [(fzE false (eI .i64) r1.1.factor.vars),(fzE false (eI .i64) r1.1.factor.zad),(fzE false (eI .i64) r1.1.factor.w),(fzE false (eI .i64) r1.1.steps)],.cells [(fzE false (eI .i64) r4.1.factor.vars),(fzE false (eI .i64) r4.1.factor.zad),(fzE false (eI .i64) r4.1.factor.w),(fzE false (eI .i64) r4.1.steps)],.els 1 (l6.map ((eI .i64).c true)),.cells [(.sl 6 0 1 (Int.toNat (r1.1.factor.w.length:Int)) (some (Int.toNat (r1.1.factor.w.length:Int))) (Int.toNat (r1.1.factor.w.length:Int)))],lpF,.els 1 (y24.2.2.map ((eI .i64).c true))]⟩
   refine EvL.jn T9 (fun a=>a=o9) ?_ ?_
   ·refine zab ?_;try simp only[rnA,Nat.reduceEqDiff,Nat.reduceLT]
    cases c31:(x27 == 0)
    ·rw[c31,cond_false]at j9;obtain⟨q32,g33,j9⟩:=bind_some j9;try simp only[rnA,Nat.reduceEqDiff,Nat.reduceLT,zkX g33,znD g33]
     replace j9:=qab j9; subst j9;exact⟨_,rfl,by rw[hT9]; exact zbH.mK (k0:=10) [.k,.k,.k,.k,.k,.k,.k,.k,.k,.k] rfl rfl (msq (msq (msq (msq (msq (msq (msq trivial))))))) ⟨MB.same trivial,⟨MB.same trivial,⟨MB.cs ⟨qcf,qcf,qcf,qcf⟩,⟨MB.cs ⟨qcf,qcf⟩,⟨MB.cs ⟨qcf,qcf,qcf,qcf,qcf⟩,⟨MB.cs ⟨qcf,qcf,qcf,qcf,qcf⟩,⟨MB.es (eI .i64) true l6,⟨MB.cs ⟨rfl,qcf⟩,⟨.same (hkin _ (by decide)),⟨MB.es (eI .i64) true y24.2.2,qcf⟩⟩⟩⟩⟩⟩⟩⟩⟩⟩⟩
    rw[c31,cond_true]at j9;try simp only[rnA,Nat.reduceEqDiff,Nat.reduceLT]
    replace j9:=qab j9; subst j9;exact⟨_,rfl,by rw[hT9]; exact zbH.mK (k0:=10) [.k,.k,.k,.k,.k,.k,.k,.k,.k,.k] rfl rfl (msq (msq (msq (msq (msq (msq (msq trivial))))))) ⟨MB.same trivial,⟨MB.same trivial,⟨MB.cs ⟨qcf,qcf,qcf,qcf⟩,⟨MB.cs ⟨qcf,qcf⟩,⟨MB.cs ⟨qcf,qcf,qcf,qcf,qcf⟩,⟨MB.cs ⟨qcf,qcf,qcf,qcf,qcf⟩,⟨MB.es (eI .i64) true l6,⟨MB.cs ⟨rfl,qcf⟩,⟨.same (hkin _ (by decide)),⟨MB.es (eI .i64) true y24.2.2,qcf⟩⟩⟩⟩⟩⟩⟩⟩⟩⟩⟩
   rintro v94 rfl;rw[congrFun hT9 v94];refine zab ?_;try simp only[rnA,Nat.reduceEqDiff]
   cases c34:v94
   ·rw[c34,cond_false]at hi7;obtain⟨q35,g36,hi7⟩:=bind_some hi7;obtain⟨x37,g38,hi7⟩:=bind_some hi7;obtain⟨y39,g40,hi7⟩:=bind_some hi7;try simp only[rnA,Nat.reduceEqDiff,Nat.reduceLT,Nat.reduceLeDiff,zlg g36,zm7 g36,el6,zbh g38,(show y24.1<(((Int.toNat (r1.1.factor.w.length:Int)):Nat):Int)from el6 ▸ zbe g38),zaH g38 ((eI .i64).c true),(show(l6.map ((eI .i64).c true)).set y24.1.toNat [(dI q35)]=y39.map ((eI .i64).c true)from zbv g40 ((eI .i64).c true))]
    exact⟨T7 y39,by rw[hT7]; rfl,by rw[hT7]; exact zbH.mK [.k,.k,.k,.k,.k,.k,.k,.k,.k,.k] rfl rfl qcf ⟨MB.same trivial,⟨MB.same trivial,⟨MB.cs ⟨qcf,qcf,qcf,qcf⟩,⟨MB.cs ⟨qcf,qcf⟩,⟨MB.cs ⟨qcf,qcf,qcf,qcf,qcf⟩,⟨MB.cs ⟨qcf,qcf,qcf,qcf,qcf⟩,⟨MB.es (eI .i64) true y39,⟨MB.cs ⟨rfl,qcf⟩,⟨.same (hkin _ (by decide)),⟨MB.same (zcE _ _ _ _),qcf⟩⟩⟩⟩⟩⟩⟩⟩⟩⟩,y39,⟨hi7,(za8 g40).trans el6⟩,rfl⟩
   rw[c34,cond_true]at hi7;try simp only[rnA,Nat.reduceEqDiff,Nat.reduceLT,Nat.reduceAdd,Nat.reduceLeDiff]
   replace hi7:=qab hi7; subst hi7;dsimp only at h;replace h:=qab h; subst h;exact⟨[.gone,.gone,.cells [zar,zar,zar],.cells [(dI 4)],.cells [(fzE false (eI .i64) r1.1.factor.vars),(fzE false (eI .i64) r1.1.factor.zad),(fzE false (eI .i64) r1.1.factor.w),(fzE false (eI .i64) r1.1.steps)],.cells [(fzE false (eI .i64) r4.1.factor.vars),(fzE false (eI .i64) r4.1.factor.zad),(fzE false (eI .i64) r4.1.factor.w),(fzE false (eI .i64) r4.1.steps)],.els 1 (l6.map ((eI .i64).c true)),.cells [(.sl 6 0 1 (Int.toNat (r1.1.factor.w.length:Int)) (some (Int.toNat (r1.1.factor.w.length:Int))) (Int.toNat (r1.1.factor.w.length:Int)))]],rfl,zbH.mK [.k,.k,.k,.k,.k,.k,.k,.k,.k,.k] rfl rfl qcf ⟨MB.same trivial,⟨MB.same trivial,⟨MB.cs ⟨qcf,qcf,qcf,qcf⟩,⟨MB.cs ⟨qcf,qcf⟩,⟨MB.cs ⟨qcf,qcf,qcf,qcf,qcf⟩,⟨MB.cs ⟨qcf,qcf,qcf,qcf,qcf⟩,⟨MB.es (eI .i64) true l6,⟨MB.cs ⟨rfl,qcf⟩,⟨.same (hkin _ (by decide)),⟨MB.same (zcE _ _ _ _),qcf⟩⟩⟩⟩⟩⟩⟩⟩⟩⟩,rfl,⟨qcf,qcf,⟨qcf,qcf,qcf,qcf⟩,⟨qcf,qcf⟩,⟨qcf,qcf,qcf,qcf,qcf⟩,⟨qcf,qcf,qcf,qcf,qcf⟩,(zca (eI .i64) _ _ _),⟨(qac rfl),qcf⟩,qcf⟩,zcH.ret rfl (Snp.zdf (.cons (.zaS (.cons (zai (eI .i64)) (.cons (zai (eI .i64)) (.cons (zai (eI .i64)) .nil)))) (.cons (.lit _) .nil)))⟩
  rw[c30,cond_true]at hi7;try simp only[rnA]
  exact⟨T7 l6,by rw[hT7]; rfl,by rw[hT7]; exact zbH.mK [.k,.k,.k,.k,.k,.k,.k,.k,.k,.k] rfl rfl qcf ⟨MB.same trivial,⟨MB.same trivial,⟨MB.cs ⟨qcf,qcf,qcf,qcf⟩,⟨MB.cs ⟨qcf,qcf⟩,⟨MB.cs ⟨qcf,qcf,qcf,qcf,qcf⟩,⟨MB.cs ⟨qcf,qcf,qcf,qcf,qcf⟩,⟨MB.es (eI .i64) true l6,⟨MB.cs ⟨rfl,qcf⟩,⟨.same (hkin _ (by decide)),⟨MB.same (zcE _ _ _ _),qcf⟩⟩⟩⟩⟩⟩⟩⟩⟩⟩,l6,⟨hi7,el6⟩,rfl⟩
 ·rintro l6 ⟨hi7,el6⟩;rw[qaW]at hi7;simp only[zbk]at hi7;exact⟨l6,(qab hi7).symm,el6,rfl⟩
 ·rintro _ ⟨l6,oeq,el6,rfl⟩;have oeq2:=oeq.symm;subst oeq2;dsimp only at h;rw[congrFun hT7 l6];refine zab ?_;obtain⟨y41,g42,h⟩:=bind_some h;try simp only[rnA,Nat.reduceEqDiff,Nat.reduceLT]
  refine EvL.clone (t:=false) (zs:=r1.1.factor.vars) g42 rfl rfl ?_;obtain⟨y43,g44,h⟩:=bind_some h;try simp only[rnA,Nat.reduceLT,Nat.reduceAdd]
  refine EvL.clone (t:=false) (zs:=r1.1.factor.zad) g44 rfl rfl ?_;try simp only[rnA,Nat.reduceEqDiff,Nat.reduceLT,Nat.reduceAdd,Nat.reduceLeDiff]
  replace h:=qab h; subst h;exact zcH.ret rfl (Snp.zdf (.cons (.zaS (.cons (zb2 (e:=(eI .i64)) (t:=true) rfl (.inl rfl) rfl rfl (fun k h=>nomatch h) (fun _=>rfl)) (.cons (zb2 (e:=(eI .i64)) (t:=true) rfl (.inl rfl) rfl rfl (fun k h=>nomatch h) (fun _=>rfl)) (.cons (zb2 (e:=(eI .i64)) (t:=true) rfl (.inl rfl) (el6).symm (el6).symm (fun k h=>by cases h; exact qaj _) (fun _=>rfl)) .nil)))) (.cons (.lit _) .nil)))
 ·intro id L1 hx; exact hx.elim
 intro L1 hx; exact hx.2.2
def zc3(p0:Int)(p1:Int):Option (Int×Int):=
(zlo .u64 p0 32).bind fun q1=>
(zlo .u64 p1 32).bind fun q3=>
(zlo .u64 (IntKind.u64.wrap ((zmQ .u64 p0 4294967295)* (zmQ .u64 p1 4294967295))) 32).bind fun q5=>
(zlo .u64 (IntKind.u64.wrap ((IntKind.u64.wrap (q1 * (zmQ .u64 p1 4294967295)))+q5)) 32).bind fun q7=>
(zlo .u64 (IntKind.u64.wrap ((zmQ .u64 (IntKind.u64.wrap ((IntKind.u64.wrap (q1 * (zmQ .u64 p1 4294967295)))+q5)) 4294967295)+(IntKind.u64.wrap ((zmQ .u64 p0 4294967295)* q3)))) 32).bind fun q9=>
some ((IntKind.u64.wrap ((IntKind.u64.wrap ((IntKind.u64.wrap (q1 * q3))+q7))+q9)),(IntKind.u64.wrap (p0 * p1)))
theorem ziI{p0:Int}{p1:Int}{r:(Int×Int)}(h:zc3 p0 p1=some r):Lx.Fn mC 95 [(dU p0),(dU p1)] (.tup [(dU r.1),(dU r.2)]):=by
 refine fnO (by conv=>lhs; cbv) ?_;unfold zc3 at h;refine zab ?_;obtain⟨q1,g2,h⟩:=bind_some h;obtain⟨q3,g4,h⟩:=bind_some h;obtain⟨q5,g6,h⟩:=bind_some h;obtain⟨q7,g8,h⟩:=bind_some h;obtain⟨q9,g10,h⟩:=bind_some h;try simp only[rnA,Nat.reduceEqDiff,reduceIte,Nat.reduceLT,Nat.reduceAdd,Nat.reduceLeDiff,Nat.reduceMul,Nat.reduceSub,Int.reduceLE,Int.reduceLT,Int.reduceBEq,Nat.reduceBEq,reduceCtorEq,(zck g2).1,(zck g2).2,(zck g4).1,(zck g4).2,(zck g6).1,(zck g6).2,(zck g8).1,(zck g8).2,(zck g10).1,(zck g10).2]
 replace h:=qab h; subst h;exact zcH.ret rfl (Snp.zdf (.cons (.lit _) (.cons (.lit _) .nil)))
def zbg(y7:(List Int))(p0:S_factor_table)(p1:S_factor_table):Nat→Int→(List Int)→Option (List Int)
 | 0,_,_=>none
 | n+1,v26,l2=>(
bif (decide (v26<(y7.length:Int)))then(
(zbr y7 v26).bind fun x12=>
(zak p0 x12).bind fun r14=>
((bif (decide (0≤r14))then(
(zbr p0.factor.zad r14).bind fun x25=>
(zbr l2 v26).bind fun x27=>
(zgs l2 v26 x25).bind fun y29=>
some y29)
else(
(zak p1 x12).bind fun r17=>
(zbr p1.factor.zad r17).bind fun x19=>
(zbr l2 v26).bind fun x21=>
(zgs l2 v26 x19).bind fun y23=>
some y23):Option (List Int))).bind fun l2'=>
zbg y7 p0 p1 n (w64 (v26+1)) l2')
else(
some l2))
def zbP(p0:S_factor_table)(p1:S_factor_table):Option ((List Int)×(List Int)):=
(zc6 8 p0.factor.vars).bind fun y1=>
(zgh 8 y1 p1.factor.vars).bind fun y3=>
(zhp 8 y3).bind fun y5=>
(zrp y5).bind fun y7=>
(zd3 8 (y7.length:Int) 0).bind fun y9=>
((zbg y7 p0 p1 ((y7.length:Int) - 0+2:Int).toNat 0 y9:Option (List Int))).bind fun l2=>
some (y7,l2)
def zeZ:C:=
 .seq (rg [oW 2 0,
 oW 3 1,
 ⟨some 4,.mov (.c (.slice none 0 0)),none⟩,
 ⟨some 5,.mov (.c (.slice none 0 0)),none⟩])
 (.seq (.reg true false [oF 9 0 2,
 oF 10 0 9,
 oL 11 10,
 oF 13 0 3,
 oF 14 0 13,
 oL 15 14,
 oU 12 49 11,
 oT 16 1 8 12 15,
 oM 4 16])
 (.seq (rg [oM 17 4,
 oU 18 50 17])
 (.seq (rg [oM 19 4,
 oU 20 133 19,
 oM 4 20])
 (.seq (rg [oM 21 4,
 oE 22 21,
 ⟨some 23,.mk 1 8 [(.int .i64 0)] (.s 22) (.s 22),none⟩,
 oM 5 23])
 (.seq (.seq (rg [oM 24 4,
 oE 25 24,
 oK 26 0])
 (.scope (.block 0 (.loop (.seq (rg [oB 27 .lss 26 25])
 (.seq (.cond (.s 27) (.skip)
 (.exit 0))
 (.seq (.block 1 (.seq (rg [oM 28 26,
 oI 29 1 24 26,
 oL 30 29,
 oM 6 28,
 oM 7 30])
 (.seq (rg [oN 31 4 2,
 oM 32 7,
 oV 33 96 31 32,
 oM 8 33])
 (.seq (rg [oM 34 8,
 oD 35 .geq 34 0])
 (.scope (.cond (.s 35) (rg [oM 36 5,
 oM 37 6,
 oF 38 0 2,
 oF 39 1 38,
 oL 40 39,
 oM 41 8,
 oI 42 1 40 41,
 oL 43 42,
 oI 44 1 36 37,
 oS 1 44 43])
 (.reg true true [oM 45 5,
 oM 46 6,
 oF 47 0 3,
 oF 48 1 47,
 oL 49 48,
 oN 50 4 3,
 oM 51 7,
 oV 52 96 50 51,
 oI 53 1 49 52,
 oL 54 53,
 oI 55 1 45 46,
 oS 1 55 54])))))))
 (rg [oD 56 .add 26 1,
 oM 26 56]))))))))
 (.seq (rg [oM 57 4,
 oM 58 5,
 oM 4 57,
 oM 5 58])
 (.ret)))))))
theorem zgl:zgu mC 91=some (59,zeZ,[.tmp 4,.tmp 5],false):=za5 (by kernel_rfl)
theorem zgG{p0:S_factor_table}{p1:S_factor_table}{r:((List Int)×(List Int))}(h:zbP p0 p1=some r):Lx.Fn mC 91 [(.agg [(fzE false (eI .i64) p0.factor.vars),(fzE false (eI .i64) p0.factor.zad),(fzE false (eI .i64) p0.factor.w),(fzE false (eI .i64) p0.steps)]),(.agg [(fzE false (eI .i64) p1.factor.vars),(fzE false (eI .i64) p1.factor.zad),(fzE false (eI .i64) p1.factor.w),(fzE false (eI .i64) p1.steps)])] (.tup [(fzE true (eI .i64) r.1),(fzE true (eI .i64) r.2)]):=by
 refine Fn.of zgl (zaW rfl) (qac rfl) ?_;unfold zbP at h;simp only[zeZ,zkp];refine zab ?_;obtain⟨y1,g2,h⟩:=bind_some h;try simp only[rnA,Nat.reduceEqDiff,Nat.reduceLT,Nat.reduceAdd,reduceCtorEq]
 refine EvL.clone (t:=false) (zs:=p0.factor.vars) g2 rfl rfl ?_;obtain⟨y3,g4,h⟩:=bind_some h;obtain⟨y5,g6,h⟩:=bind_some h;try simp only[rnA,Nat.reduceEqDiff,Nat.reduceLT,Nat.reduceAdd,reduceCtorEq,(show ∀ L,zk8 L 1 (fzE false (eI .i64) p1.factor.vars)=some (p1.factor.vars.map ((eI .i64).c true))from fun L=>zq3 (e:=(eI .i64)) rfl _ L false),zgw g4,(show y1.length+p1.factor.vars.length=y3.length from zev g4),(show y1.map ((eI .i64).c true)++ p1.factor.vars.map ((eI .i64).c true)=y3.map ((eI .i64).c true)from zfo g4 ((eI .i64).c true))]
 refine EvL.sort (zs:=y3) (t:=true) g6 rfl rfl rfl rfl rfl ?_;obtain⟨y7,g8,h⟩:=bind_some h;try simp only[rnA,Nat.reduceEqDiff,Nat.reduceLT,reduceCtorEq]
 refine EvL.compact (zs:=y5) (t:=true) g8 rfl rfl rfl (((zkg g6).trans rfl)).symm (((zkg g6).trans rfl)).symm rfl ?_;refine EvL.zeV (S':=⟨59,[(2,(.ptr 0 0)),(3,(.ptr 1 0)),(20,(fzE true (eI .i64) y7))],[.cells [(fzE false (eI .i64) p0.factor.vars),(fzE false (eI .i64) p0.factor.zad),(fzE false (eI .i64) p0.factor.w),(fzE false (eI .i64) p0.steps)],.cells [(fzE false (eI .i64) p1.factor.vars),(fzE false (eI .i64) p1.factor.zad),(fzE false (eI .i64) p1.factor.w),(fzE false (eI .i64) p1.steps)]]⟩) (zbH.m0 [.k,.k,.f] rfl (msq (msq (mf rfl (zg5 (xs:=y5) (ys:=y7) (t:=true) (zqI g8) rfl rfl rfl (fun _=>rfl)) trivial))) ⟨MB.cs ⟨qcf,qcf,qcf,qcf,qcf⟩,⟨MB.cs ⟨qcf,qcf,qcf,qcf,qcf⟩,qcf⟩⟩) (zab ?_);obtain⟨y9,g10,h⟩:=bind_some h;try simp only[rnA,Nat.reduceEqDiff,Nat.reduceLT,Nat.reduceAdd,zaY,(zas g10).1.1,(zas g10).1.2,qbv,(show List.replicate (Int.toNat (y7.length:Int)) [(dI 0)]=y9.map ((eI .i64).c true)from zbD g10 ((eI .i64).c true))]
 obtain⟨o4,j4,h⟩:=bind_some h;obtain⟨T4,hT4⟩:=mkT fun a:(List Int)=>⟨59,[(4,(fzE true (eI .i64) y7)),(5,(.sl 2 0 1 (Int.toNat (y7.length:Int)) (some (Int.toNat (y7.length:Int))) (Int.toNat (y7.length:Int))))],[.gone,.gone,.els 1 (a.map ((eI .i64).c true))]⟩
 refine EvL.jn T4 (fun a=>a=o4∧a.length=(Int.toNat (y7.length:Int))) ?_ ?_
 ·refine zab ?_;simp only[rnA];obtain⟨T7,hT7⟩:=mkT fun a:(Int×(List Int))=>⟨59,[(2,(.ptr 0 0)),(3,(.ptr 1 0)),(4,(fzE true (eI .i64) y7)),(5,(.sl 2 0 1 (Int.toNat (y7.length:Int)) (some (Int.toNat (y7.length:Int))) (Int.toNat (y7.length:Int)))),(24,(fzE true (eI .i64) y7)),(25,(dI (y7.length:Int))),(26,(dI a.1))],[.cells [(fzE false (eI .i64) p0.factor.vars),(fzE false (eI .i64) p0.factor.zad),(fzE false (eI .i64) p0.factor.w),(fzE false (eI .i64) p0.steps)],.cells [(fzE false (eI .i64) p1.factor.vars),(fzE false (eI .i64) p1.factor.zad),(fzE false (eI .i64) p1.factor.w),(fzE false (eI .i64) p1.steps)],.els 1 (a.2.map ((eI .i64).c true))]⟩
  refine EvL.rounds (α:=(Int×(List Int))) T7 (fun n a=>zbg y7 p0 p1 n a.1 a.2=some o4∧a.2.length=(Int.toNat (y7.length:Int))) ((y7.length:Int) - 0+2:Int).toNat (0,y9) (by rw[hT7]; exact wm0 [.k,.k,.k] ⟨MB.cs ⟨qcf,qcf,qcf,qcf,qcf⟩,⟨MB.cs ⟨qcf,qcf,qcf,qcf,qcf⟩,⟨MB.es (eI .i64) true y9,qcf⟩⟩⟩) ⟨j4,zbm g10⟩ (fun _ h=>nomatch (show(none:Option (List Int))=some o4 from h.1)) ?_;rintro n ⟨v26,l2⟩ ⟨j4,el2⟩;simp only[zbg]at j4;rw[congrFun hT7 (v26,l2)];refine zab ?_;try simp only[rnA,Nat.reduceEqDiff,Nat.reduceLT]
  cases c11:(decide (v26<(y7.length:Int)))
  ·rw[c11,cond_false]at j4;try simp only[rnA]
   replace j4:=qab j4; subst j4;exact⟨_,⟨rfl,el2⟩,by rw[hT4]; exact wm0 [.d,.d,.k] ⟨rfl,⟨rfl,⟨MB.es (eI .i64) true l2,qcf⟩⟩⟩⟩
  rw[c11,cond_true]at j4;obtain⟨x12,g13,j4⟩:=bind_some j4;obtain⟨r14,g15,j4⟩:=bind_some j4;try simp only[rnA,Nat.reduceEqDiff,Nat.reduceLT,Nat.reduceAdd,Nat.reduceLeDiff,zat (n:=1) (e:=(eI .i64)) rfl g13]
  refine EvL.fn (zam g15) rfl rfl (.cons (.zaS (.cons (zaa _ _ (fun h=>nomatch h)) (.cons (zaa _ _ (fun h=>nomatch h)) (.cons (zaa _ _ (fun h=>nomatch h)) (.cons (zaa _ _ (fun h=>nomatch h)) .nil))))) (.cons (.lit _) .nil)) ?_;try simp only[rnA,Nat.reduceEqDiff,Nat.reduceLT]
  obtain⟨o8,j8,j4⟩:=bind_some j4;obtain⟨T8,hT8⟩:=mkT fun a:(List Int)=>⟨59,[(2,(.ptr 0 0)),(3,(.ptr 1 0)),(4,(fzE true (eI .i64) y7)),(5,(.sl 2 0 1 (Int.toNat (y7.length:Int)) (some (Int.toNat (y7.length:Int))) (Int.toNat (y7.length:Int)))),(24,(fzE true (eI .i64) y7)),(25,(dI (y7.length:Int))),(26,(dI v26))],[.cells [(fzE false (eI .i64) p0.factor.vars),(fzE false (eI .i64) p0.factor.zad),(fzE false (eI .i64) p0.factor.w),(fzE false (eI .i64) p0.steps)],.cells [(fzE false (eI .i64) p1.factor.vars),(fzE false (eI .i64) p1.factor.zad),(fzE false (eI .i64) p1.factor.w),(fzE false (eI .i64) p1.steps)],.els 1 (a.map ((eI .i64).c true))]⟩
  refine EvL.jn T8 (fun a=>a=o8∧a.length=(Int.toNat (y7.length:Int))) ?_ ?_
  ·refine zab ?_;try simp only[rnA,Nat.reduceEqDiff]
   cases c16:(decide (0≤r14))
   ·rw[c16,cond_false]at j8;obtain⟨r17,g18,j8⟩:=bind_some j8;try simp only[rnA,Nat.reduceEqDiff,Nat.reduceLT,Nat.reduceAdd,Nat.reduceLeDiff]
    refine EvL.fn (zam g18) rfl rfl (.cons (.zaS (.cons (zaa _ _ (fun h=>nomatch h)) (.cons (zaa _ _ (fun h=>nomatch h)) (.cons (zaa _ _ (fun h=>nomatch h)) (.cons (zaa _ _ (fun h=>nomatch h)) .nil))))) (.cons (.lit _) .nil)) ?_;obtain⟨x19,g20,j8⟩:=bind_some j8;obtain⟨x21,g22,j8⟩:=bind_some j8;obtain⟨y23,g24,j8⟩:=bind_some j8;try simp only[rnA,Nat.reduceEqDiff,Nat.reduceLT,Nat.reduceLeDiff,zat (n:=1) (e:=(eI .i64)) rfl g20,el2,zbh g22,(show v26<(((Int.toNat (y7.length:Int)):Nat):Int)from el2 ▸ zbe g22),zaH g22 ((eI .i64).c true),(show(l2.map ((eI .i64).c true)).set v26.toNat [(dI x19)]=y23.map ((eI .i64).c true)from zbv g24 ((eI .i64).c true))]
    replace j8:=qab j8; subst j8;exact⟨_,⟨rfl,(za8 g24).trans el2⟩,by rw[hT8]; exact wm0 [.k,.k,.k] ⟨MB.cs ⟨qcf,qcf,qcf,qcf,qcf⟩,⟨MB.cs ⟨qcf,qcf,qcf,qcf,qcf⟩,⟨MB.es (eI .i64) true y23,qcf⟩⟩⟩⟩
   rw[c16,cond_true]at j8;obtain⟨x25,g26,j8⟩:=bind_some j8;obtain⟨x27,g28,j8⟩:=bind_some j8;obtain⟨y29,g30,j8⟩:=bind_some j8;try simp only[rnA,Nat.reduceEqDiff,Nat.reduceLT,Nat.reduceLeDiff,zat (n:=1) (e:=(eI .i64)) rfl g26,el2,zbh g28,(show v26<(((Int.toNat (y7.length:Int)):Nat):Int)from el2 ▸ zbe g28),zaH g28 ((eI .i64).c true),(show(l2.map ((eI .i64).c true)).set v26.toNat [(dI x25)]=y29.map ((eI .i64).c true)from zbv g30 ((eI .i64).c true))]
   replace j8:=qab j8; subst j8;exact⟨_,⟨rfl,(za8 g30).trans el2⟩,by rw[hT8]; exact wm0 [.k,.k,.k] ⟨MB.cs ⟨qcf,qcf,qcf,qcf,qcf⟩,⟨MB.cs ⟨qcf,qcf,qcf,qcf,qcf⟩,⟨MB.es (eI .i64) true y29,qcf⟩⟩⟩⟩
  rintro l2' ⟨rfl,el2'⟩;rw[congrFun hT8 l2'];refine zab ?_;try simp only[rnA,Nat.reduceEqDiff,Nat.reduceLT]
  exact⟨((w64 (v26+1)),l2'),⟨j4,el2'⟩,by rw[hT7]; exact wm0 [.k,.k,.k] ⟨MB.cs ⟨qcf,qcf,qcf,qcf,qcf⟩,⟨MB.cs ⟨qcf,qcf,qcf,qcf,qcf⟩,⟨MB.es (eI .i64) true l2',qcf⟩⟩⟩⟩
 rintro l2 ⟨rfl,el2⟩;rw[congrFun hT4 l2];refine zab ?_;try simp only[rnA,Nat.reduceEqDiff,Nat.reduceLT]
 replace h:=qab h; subst h;exact zcH.ret rfl (Snp.zdf (.cons (zaa _ _ (fun _=>rfl)) (.cons (zb2 (e:=(eI .i64)) (t:=true) rfl (.inl rfl) (el2).symm (el2).symm (fun k h=>by cases h; exact qaj _) (fun _=>rfl)) .nil)))
def zbM(r4:(S_factor_table×Int))(r12:(Int×Int)):List (Int×Int×(List Int))→(List Int)→Option (Out (List Int) (S_api_Factor×Int))
 | [],l6'=>some (.go l6')
 | y36 :: ys,l6'=>(
(zbr l6' y36.1).bind fun x37=>
(zbr r4.1.factor.w y36.2.1).bind fun x39=>
(zc3 (IntKind.u64.wrap x37) (IntKind.u64.wrap x39)).bind fun r41=>
((bif (r41.1 == 0)then(
some (decide (4611686018427387903<r41.2)))
else(
some true):Option Bool)).bind fun v102=>
bif v102 then(
some (.ret ((S_api_Factor.mk [] [] []),6)))
else(
(zbr l6' y36.1).bind fun x45=>
(zgs l6' y36.1 (w64 r41.2)).bind fun y47=>
zbM r4 r12 ys y47))
def zbJ(r1:(S_factor_table×Int))(r12:(Int×Int)):List (Int×Int×(List Int))→(List Int)→Option (List Int)
 | [],l6=>some l6
 | y23 :: ys,l6=>(
(zbr r1.1.factor.w y23.2.1).bind fun x24=>
(zbr l6 y23.1).bind fun x26=>
(zgs l6 y23.1 x24).bind fun y28=>
zbJ r1 r12 ys y28)
def zau(p0:S_api_Factor)(p1:S_api_Factor):Option (S_api_Factor×Int):=
(zaw p0).bind fun r1=>
bif (r1.2 == 0)then(
(zaw p1).bind fun r4=>
bif (r4.2 == 0)then(
(zbV r1.1 r4.1).bind fun r7=>
bif r7 then(
(zbP r1.1 r4.1).bind fun r10=>
(zb6 r10.2).bind fun r12=>
bif (r12.2 == 0)then(
(zd3 8 r12.1 0).bind fun y15=>
(zaA r1.1 r10.1).bind fun r17=>
(zaT r10.2 r17).bind fun r19=>
(zoZ r19.1 r19.2).bind fun u21=>
((zbJ r1 r12 u21 y15:Option (List Int))).bind fun l6=>
(zaA r4.1 r10.1).bind fun r30=>
(zaT r10.2 r30).bind fun r32=>
(zoZ r32.1 r32.2).bind fun u34=>
((zbM r4 r12 u34 l6:Option (Out (List Int) (S_api_Factor×Int)))).bind fun o=>match o with
| .go l6'=>(
some ((S_api_Factor.mk r10.1 r10.2 l6'),0))
| .ret r=>some r)
else(
some ((S_api_Factor.mk [] [] []),3)))
else(
some ((S_api_Factor.mk [] [] []),2)))
else(
some ((S_api_Factor.mk [] [] []),r4.2)))
else(
some ((S_api_Factor.mk [] [] []),r1.2))
def zgg:C:=
 .seq (rg [oW 2 0,
 oW 3 1,
 ⟨some 4,.alloc [(.slice none 0 0),(.slice none 0 0),(.slice none 0 0)],none⟩,
 ⟨some 5,.alloc [(.int .i64 0)],none⟩])
 (.seq (rg [oN 20 3 2,
 oU 21 89 20,
 oM 19 21,
 oX 22 19 0,
 oX 23 19 1,
 ⟨some 6,.alloc [(.slice none 0 0),(.slice none 0 0),(.slice none 0 0),(.slice none 0 0)],none⟩,
 oS 4 6 22,
 oM 7 23])
 (.seq (.seq (rg [oM 24 7,
 oD 25 .neq 24 0])
 (.cond (.s 25) (.seq (rg [⟨some 26,.build [(.slice none 0 0),(.slice none 0 0),(.slice none 0 0)] [],none⟩,
 oM 27 7,
 oS 3 4 26,
 oS 1 5 27])
 (.ret))
 (.skip)))
 (.seq (rg [oN 29 3 3,
 oU 30 89 29,
 oM 28 30,
 oX 31 28 0,
 oX 32 28 1,
 ⟨some 8,.alloc [(.slice none 0 0),(.slice none 0 0),(.slice none 0 0),(.slice none 0 0)],none⟩,
 oS 4 8 31,
 oM 7 32])
 (.seq (.seq (rg [oM 33 7,
 oD 34 .neq 33 0])
 (.cond (.s 34) (.seq (rg [⟨some 35,.build [(.slice none 0 0),(.slice none 0 0),(.slice none 0 0)] [],none⟩,
 oM 36 7,
 oS 3 4 35,
 oS 1 5 36])
 (.ret))
 (.skip)))
 (.seq (.seq (rg [oN 37 4 6,
 oN 38 4 8,
 oV 39 90 37 38,
 ⟨some 40,.un .not (.s 39),none⟩])
 (.cond (.s 40) (.seq (rg [⟨some 41,.build [(.slice none 0 0),(.slice none 0 0),(.slice none 0 0)] [],none⟩,
 oS 3 4 41,
 ⟨none,.store 1 (.s 5) (.c (.int .i64 2)),none⟩])
 (.ret))
 (.skip)))
 (.seq (rg [oN 43 4 6,
 oN 44 4 8,
 oV 45 91 43 44,
 oM 42 45,
 oX 46 42 0,
 oX 47 42 1,
 oM 9 46,
 oM 10 47])
 (.seq (rg [oM 49 10,
 oU 50 92 49,
 oM 48 50,
 oX 51 48 0,
 oX 52 48 1,
 oM 11 51,
 oM 7 52])
 (.seq (.seq (rg [oM 53 7,
 oD 54 .neq 53 0])
 (.cond (.s 54) (.seq (rg [⟨some 55,.build [(.slice none 0 0),(.slice none 0 0),(.slice none 0 0)] [],none⟩,
 oS 3 4 55,
 ⟨none,.store 1 (.s 5) (.c (.int .i64 3)),none⟩])
 (.ret))
 (.skip)))
 (.seq (rg [oM 56 11,
 ⟨some 57,.mk 1 8 [(.int .i64 0)] (.s 56) (.s 56),none⟩,
 ⟨some 12,.alloc [(.slice none 0 0)],none⟩,
 oS 1 12 57])
 (.seq (.seq (rg [oM 58 10,
 oN 59 4 6,
 oM 60 9,
 oV 61 94 59 60,
 oV 62 93 58 61])
 (.block 0 (.zdH (.s 62) [63,64] (.seq (rg [oM 13 63])
 (rg [oM 14 64]))
 (.block 1 (.reg true false [oL 65 12,
 oM 66 13,
 oF 67 0 6,
 oF 68 2 67,
 oL 69 68,
 oM 70 14,
 oI 71 1 69 70,
 oL 72 71,
 oI 73 1 65 66,
 oS 1 73 72])))))
 (.seq (.seq (rg [oM 74 10,
 oN 75 4 8,
 oM 76 9,
 oV 77 94 75 76,
 oV 78 93 74 77])
 (.block 2 (.zdH (.s 78) [79,80] (.seq (rg [oM 15 79])
 (rg [oM 16 80]))
 (.block 3 (.seq (.reg true false [oL 82 12,
 oM 83 15,
 oI 84 1 82 83,
 oL 85 84,
 ⟨some 86,.conv .u64 (.s 85),none⟩,
 oF 87 0 8,
 oF 88 2 87,
 oL 89 88,
 oM 90 16,
 oI 91 1 89 90,
 oL 92 91,
 ⟨some 93,.conv .u64 (.s 92),none⟩,
 oV 94 95 86 93,
 oM 81 94,
 oX 95 81 0,
 oX 96 81 1,
 oM 17 95,
 oM 18 96])
 (.seq (.seq (rg [oM 97 17,
 oDu 98 .neq 97 0,
 oM 99 98,
 oMg 100 18 99 false,
 ⟨some 101,.bin .gtr (.s 100) (.c (.int .u64 4611686018427387903)),some (99,false)⟩,
 oP 102 99 101])
 (.cond (.s 102) (.seq (rg [⟨some 103,.build [(.slice none 0 0),(.slice none 0 0),(.slice none 0 0)] [],none⟩,
 oS 3 4 103,
 ⟨none,.store 1 (.s 5) (.c (.int .i64 6)),none⟩])
 (.ret))
 (.skip)))
 (rg [oL 104 12,
 oM 105 15,
 oM 106 18,
 ⟨some 107,.conv .i64 (.s 106),none⟩,
 oI 108 1 104 105,
 oS 1 108 107])))))))
 (.seq (rg [oM 109 9,
 oM 110 10,
 oL 111 12,
 ⟨some 112,.build [(.slice none 0 0),(.slice none 0 0),(.slice none 0 0)] [(0,1,(.s 109)),(1,1,(.s 110)),(2,1,(.s 111))],none⟩,
 oS 3 4 112,
 ⟨none,.store 1 (.s 5) (.c (.int .i64 0)),none⟩])
 (.ret)))))))))))))
theorem zhw:zgu mC 25=some (113,zgg,[.cell 4 (some 3),.cell 5 none],false):=za5 (by kernel_rfl)
theorem za0{p0:S_api_Factor}{p1:S_api_Factor}{r:(S_api_Factor×Int)}(h:zau p0 p1=some r):Lx.Fn mC 25 [(.agg [(fzE false (eI .i64) p0.vars),(fzE false (eI .i64) p0.zad),(fzE false (eI .i64) p0.w)]),(.agg [(fzE false (eI .i64) p1.vars),(fzE false (eI .i64) p1.zad),(fzE false (eI .i64) p1.w)])] (.tup [(.agg [(fzE true (eI .i64) r.1.vars),(fzE true (eI .i64) r.1.zad),(fzE true (eI .i64) r.1.w)]),(dI r.2)]):=by
 refine Fn.of zhw (zaW rfl) (qac rfl) ?_;unfold zau at h;simp only[zgg,zkp];refine zab ?_;obtain⟨r1,g2,h⟩:=bind_some h;try simp only[rnA,Nat.reduceEqDiff,Nat.reduceLT,Nat.reduceAdd,Nat.reduceLeDiff,reduceCtorEq]
 refine EvL.fnS (zaR g2) rfl rfl (.cons (Mzs.agg (.cons (zaf _ _ (fun h=>by cases h<;>contradiction)) (.cons (zaf _ _ (fun h=>by cases h<;>contradiction)) (.cons (zaf _ _ (fun h=>by cases h<;>contradiction)) .nil)))) .nil) ⟨⟨(zac _ _),(zac _ _),(zac _ _),qcf⟩,qcf⟩ ⟨⟨(zac _ _),(zac _ _),(zac _ _),(zac _ _),qcf⟩,qcf,qcf⟩ ?_;try simp only[rnA,Nat.reduceEqDiff,Nat.reduceLT,Nat.reduceAdd,Nat.reduceLeDiff,reduceCtorEq]
 cases c3:(r1.2 == 0)
 ·rw[c3,cond_false]at h;try simp only[rnA,Nat.reduceEqDiff,Nat.reduceLT,Nat.reduceAdd,Nat.reduceLeDiff,reduceCtorEq]
  replace h:=qab h; subst h;exact zcH.ret rfl (Snp.zdf (.cons (.zaS (.cons (zai (eI .i64)) (.cons (zai (eI .i64)) (.cons (zai (eI .i64)) .nil)))) (.cons (.lit _) .nil)))
 rw[c3,cond_true]at h;obtain⟨r4,g5,h⟩:=bind_some h;try simp only[rnA,Nat.reduceEqDiff,Nat.reduceLT,Nat.reduceAdd,Nat.reduceLeDiff,reduceCtorEq]
 refine EvL.fnS (zaR g5) rfl rfl (.cons (Mzs.agg (.cons (zaf _ _ (fun h=>by cases h<;>contradiction)) (.cons (zaf _ _ (fun h=>by cases h<;>contradiction)) (.cons (zaf _ _ (fun h=>by cases h<;>contradiction)) .nil)))) .nil) ⟨⟨(zac _ _),(zac _ _),(zac _ _),qcf⟩,qcf⟩ ⟨⟨(zac _ _),(zac _ _),(zac _ _),(zac _ _),qcf⟩,qcf,qcf⟩ ?_;try simp only[rnA,Nat.reduceEqDiff,Nat.reduceLT,Nat.reduceAdd,Nat.reduceLeDiff,reduceCtorEq]
 cases c6:(r4.2 == 0)
 ·rw[c6,cond_false]at h;try simp only[rnA,Nat.reduceEqDiff,Nat.reduceLT,Nat.reduceAdd,Nat.reduceLeDiff,reduceCtorEq]
  replace h:=qab h; subst h;exact zcH.ret rfl (Snp.zdf (.cons (.zaS (.cons (zai (eI .i64)) (.cons (zai (eI .i64)) (.cons (zai (eI .i64)) .nil)))) (.cons (.lit _) .nil)))
 rw[c6,cond_true]at h;obtain⟨r7,g8,h⟩:=bind_some h;try simp only[rnA,Nat.reduceEqDiff,Nat.reduceLT,Nat.reduceAdd,Nat.reduceLeDiff,reduceCtorEq]
 refine EvL.fn (zeE g8) rfl rfl (.cons (.zaS (.cons (zaa _ _ (fun h=>nomatch h)) (.cons (zaa _ _ (fun h=>nomatch h)) (.cons (zaa _ _ (fun h=>nomatch h)) (.cons (zaa _ _ (fun h=>nomatch h)) .nil))))) (.cons (.zaS (.cons (zaa _ _ (fun h=>nomatch h)) (.cons (zaa _ _ (fun h=>nomatch h)) (.cons (zaa _ _ (fun h=>nomatch h)) (.cons (zaa _ _ (fun h=>nomatch h)) .nil))))) .nil)) ?_;try simp only[rnA,Nat.reduceEqDiff,Nat.reduceLT,reduceCtorEq]
 cases c9:r7
 ·rw[c9,cond_false]at h;try simp only[rnA,Nat.reduceEqDiff,Nat.reduceLT,Nat.reduceAdd,Nat.reduceLeDiff,reduceCtorEq]
  replace h:=qab h; subst h;exact zcH.ret rfl (Snp.zdf (.cons (.zaS (.cons (zai (eI .i64)) (.cons (zai (eI .i64)) (.cons (zai (eI .i64)) .nil)))) (.cons (.lit _) .nil)))
 rw[c9,cond_true]at h;obtain⟨r10,g11,h⟩:=bind_some h;try simp only[rnA,Nat.reduceEqDiff,Nat.reduceLT,Nat.reduceAdd,Nat.reduceLeDiff,reduceCtorEq]
 refine EvL.fn (zgG g11) rfl rfl (.cons (.zaS (.cons (zaa _ _ (fun h=>nomatch h)) (.cons (zaa _ _ (fun h=>nomatch h)) (.cons (zaa _ _ (fun h=>nomatch h)) (.cons (zaa _ _ (fun h=>nomatch h)) .nil))))) (.cons (.zaS (.cons (zaa _ _ (fun h=>nomatch h)) (.cons (zaa _ _ (fun h=>nomatch h)) (.cons (zaa _ _ (fun h=>nomatch h)) (.cons (zaa _ _ (fun h=>nomatch h)) .nil))))) .nil)) ?_;obtain⟨r12,g13,h⟩:=bind_some h;try simp only[rnA,Nat.reduceEqDiff,Nat.reduceLT,reduceCtorEq]
 refine EvL.fn (zfl g13) rfl rfl (.cons (zaa _ _ (fun h=>nomatch h)) .nil) ?_;try simp only[rnA,Nat.reduceEqDiff,Nat.reduceLT,reduceCtorEq]
 cases c14:(r12.2 == 0)
 ·rw[c14,cond_false]at h;try simp only[rnA,Nat.reduceEqDiff,Nat.reduceLT,Nat.reduceAdd,Nat.reduceLeDiff,reduceCtorEq]
  replace h:=qab h; subst h;exact zcH.ret rfl (Snp.zdf (.cons (.zaS (.cons (zai (eI .i64)) (.cons (zai (eI .i64)) (.cons (zai (eI .i64)) .nil)))) (.cons (.lit _) .nil)))
 rw[c14,cond_true]at h;obtain⟨y15,g16,h⟩:=bind_some h;obtain⟨r17,g18,h⟩:=bind_some h;try simp only[rnA,Nat.reduceEqDiff,Nat.reduceLT,Nat.reduceAdd,Nat.reduceLeDiff,reduceCtorEq,(zas g16).1.1,(zas g16).1.2,qbv,(show List.replicate (Int.toNat r12.1) [(dI 0)]=y15.map ((eI .i64).c true)from zbD g16 ((eI .i64).c true))]
 refine EvL.fn (zbn g18) rfl rfl (.cons (.zaS (.cons (zaa _ _ (fun h=>nomatch h)) (.cons (zaa _ _ (fun h=>nomatch h)) (.cons (zaa _ _ (fun h=>nomatch h)) (.cons (zaa _ _ (fun h=>nomatch h)) .nil))))) (.cons (zaa _ _ (fun h=>nomatch h)) .nil)) ?_;obtain⟨r19,g20,h⟩:=bind_some h;try simp only[rnA,Nat.reduceLT]
 refine EvL.fnS (zbd g20) rfl rfl (.cons (zaf _ _ (fun h=>by cases h<;>contradiction)) (.cons (zaf _ _ (fun h=>by cases h<;>contradiction)) .nil)) ⟨(zac _ _),(zac _ _),qcf⟩ ⟨qcf,⟨⟨rfl,zac _ _,qcf⟩,⟨rfl,zac _ _,qcf⟩,qcf⟩⟩ ?_;try simp only[rnA,Nat.reduceLT]
 obtain⟨u21,g22,h⟩:=bind_some h;obtain⟨o1,j1,h⟩:=bind_some h;obtain⟨T1,hT1⟩:∃ T:(List Int)→List LB,T=(fun a=>[.cells [(fzE false (eI .i64) p0.vars),(fzE false (eI .i64) p0.zad),(fzE false (eI .i64) p0.w)],.cells [(fzE false (eI .i64) p1.vars),(fzE false (eI .i64) p1.zad),(fzE false (eI .i64) p1.w)],.cells [zar,zar,zar],.cells [(dI 0)],.cells [(fzE false (eI .i64) r1.1.factor.vars),(fzE false (eI .i64) r1.1.factor.zad),(fzE false (eI .i64) r1.1.factor.w),(fzE false (eI .i64) r1.1.steps)],.cells [(fzE false (eI .i64) r4.1.factor.vars),(fzE false (eI .i64) r4.1.factor.zad),(fzE false (eI .i64) r4.1.factor.w),(fzE false (eI .i64) r4.1.steps)],.els 1 (a.map ((eI .i64).c true)),.cells [(.sl 6 0 1 (Int.toNat r12.1) (some (Int.toNat r12.1)) (Int.toNat r12.1))]]):=⟨_,rfl⟩;refine EvL.zeV (S':=⟨113,[(4,(.ptr 2 0)),(5,(.ptr 3 0)),(6,(.ptr 4 0)),(8,(.ptr 5 0)),(9,(fzE true (eI .i64) r10.1)),(10,(fzE true (eI .i64) r10.2)),(12,(.ptr 7 0)),(62,(.clo 135 [] [(.fptr false ((eL (eI .i64)).c false r19.1)),(.fptr false ((eL (eI .i64)).c false r19.2))]))],T1 y15⟩) (by rw[hT1]; exact wm0 [.k,.k,.k,.k,.k,.k,.k,.k] ⟨MB.cs ⟨qcf,qcf,qcf,qcf⟩,⟨MB.cs ⟨qcf,qcf,qcf,qcf⟩,⟨MB.cs ⟨qcf,qcf,qcf,qcf⟩,⟨MB.cs ⟨qcf,qcf⟩,⟨MB.cs ⟨qcf,qcf,qcf,qcf,qcf⟩,⟨MB.cs ⟨qcf,qcf,qcf,qcf,qcf⟩,⟨MB.es (eI .i64) true y15,⟨MB.cs ⟨rfl,qcf⟩,qcf⟩⟩⟩⟩⟩⟩⟩⟩) ?_;refine EvL.zjd (n0:=8) (za9 g22) rfl (bm:=.block 1 (.reg true false [⟨some 65,.load none (.s 12),none⟩,⟨some 66,.mov (.s 13),none⟩,⟨some 67,.fld 0 (.s 6),none⟩,⟨some 68,.fld 2 (.s 67),none⟩,⟨some 69,.load none (.s 68),none⟩,⟨some 70,.mov (.s 14),none⟩,⟨some 71,.idxS 1 (.s 69) (.s 70),none⟩,⟨some 72,.load none (.s 71),none⟩,⟨some 73,.idxS 1 (.s 65) (.s 66),none⟩,⟨none,.store 1 (.s 73) (.s 72),none⟩])) rfl T1 (fun i a=>zbJ r1 r12 (u21.drop i) a=some o1∧a.length=(Int.toNat r12.1)) (fun x L1=>match x with | .normal=>∃ a,o1=a∧a.length=(Int.toNat r12.1)∧L1=T1 a | .ret=>L1.length=8∧zee (8+1) L1∧(zcH [.cell 4 (some 3),.cell 5 none] ((.tup [(.agg [(fzE true (eI .i64) r.1.vars),(fzE true (eI .i64) r.1.zad),(fzE true (eI .i64) r.1.w)]),(dI r.2)]))) .ret ⟨113,[(4,(.ptr 2 0)),(5,(.ptr 3 0)),(6,(.ptr 4 0)),(8,(.ptr 5 0)),(9,(fzE true (eI .i64) r10.1)),(10,(fzE true (eI .i64) r10.2)),(12,(.ptr 7 0)),(62,(.clo 135 [] [(.fptr false ((eL (eI .i64)).c false r19.1)),(.fptr false ((eL (eI .i64)).c false r19.2))]))],L1 ++ [.lost]⟩| _=>False) y15 ?_ (qaV _) ?_ ?_ ?_ (fun d L1 hx=>hx.elim) ?_ ?_ ?_ ?_ ?_ ?_
 ·intro a; rw[hT1]; rfl
 ·exact⟨(qac rfl),(qac rfl),(qac rfl),(qac rfl),qcf,qcf,(qac rfl),⟨qcf,⟨qcf,qcf,qcf⟩⟩,qcf⟩
 ·intro a; rw[hT1]; exact⟨⟨qcf,qcf,qcf,qcf⟩,⟨qcf,qcf,qcf,qcf⟩,⟨qcf,qcf,qcf,qcf⟩,⟨qcf,qcf⟩,⟨qcf,qcf,qcf,qcf,qcf⟩,⟨qcf,qcf,qcf,qcf,qcf⟩,(zca (eI .i64) _ _ _),⟨(qac rfl),qcf⟩,qcf⟩
 ·intro x L1 hx;cases x with
  | normal=>obtain⟨a,_,_,rfl⟩:=hx; exact⟨by rw[hT1]; rfl,by rw[hT1]; exact⟨⟨qcf,qcf,qcf,qcf⟩,⟨qcf,qcf,qcf,qcf⟩,⟨qcf,qcf,qcf,qcf⟩,⟨qcf,qcf⟩,⟨qcf,qcf,qcf,qcf,qcf⟩,⟨qcf,qcf,qcf,qcf,qcf⟩,(zca (eI .i64) _ _ _),⟨(qac rfl),qcf⟩,qcf⟩⟩
  | ret=>exact⟨hx.1,hx.2.1⟩
  | exit id=>exact hx.elim
  | panic d=>exact hx.elim
 ·exact⟨j1,zbm g16⟩
 ·rintro i l6 y23 args G lpF hy ⟨hi1,el6⟩ ⟨rfl,rfl⟩ hkin;rw[zeN hy]at hi1;simp only[zbJ]at hi1;refine⟨_,_,rfl,rfl,?_⟩;rw[congrFun hT1 l6];refine zab ?_;obtain⟨x24,g25,hi1⟩:=bind_some hi1;obtain⟨x26,g27,hi1⟩:=bind_some hi1;obtain⟨y28,g29,hi1⟩:=bind_some hi1;try simp only[rnA,Nat.reduceEqDiff,Nat.reduceLT,Nat.reduceAdd,Nat.reduceLeDiff,zat (n:=1) (e:=(eI .i64)) rfl g25,el6,zbh g27,(show y23.1<(((Int.toNat r12.1):Nat):Int)from el6 ▸ zbe g27),zaH g27 ((eI .i64).c true),(show(l6.map ((eI .i64).c true)).set y23.1.toNat [(dI x24)]=y28.map ((eI .i64).c true)from zbv g29 ((eI .i64).c true))]
  exact⟨T1 y28,by rw[hT1]; rfl,by rw[hT1]; exact zbH.mK [.k,.k,.k,.k,.k,.k,.k,.k,.k,.k] rfl rfl qcf ⟨MB.cs ⟨qcf,qcf,qcf,qcf⟩,⟨MB.cs ⟨qcf,qcf,qcf,qcf⟩,⟨MB.cs ⟨qcf,qcf,qcf,qcf⟩,⟨MB.cs ⟨qcf,qcf⟩,⟨MB.cs ⟨qcf,qcf,qcf,qcf,qcf⟩,⟨MB.cs ⟨qcf,qcf,qcf,qcf,qcf⟩,⟨MB.es (eI .i64) true y28,⟨MB.cs ⟨rfl,qcf⟩,⟨.same (hkin _ (by decide)),⟨MB.same (zcE _ _ _ _),qcf⟩⟩⟩⟩⟩⟩⟩⟩⟩⟩,y28,⟨hi1,(za8 g29).trans el6⟩,rfl⟩
 ·rintro l6 ⟨hi1,el6⟩;rw[qaW]at hi1;simp only[zbJ]at hi1;exact⟨l6,(qab hi1).symm,el6,rfl⟩
 ·rintro _ ⟨l6,oeq,el6,rfl⟩;have oeq2:=oeq.symm;subst oeq2;rw[congrFun hT1 l6];refine zab ?_;obtain⟨r30,g31,h⟩:=bind_some h;try simp only[rnA,Nat.reduceEqDiff,Nat.reduceLT,Nat.reduceAdd,Nat.reduceLeDiff]
  refine EvL.fn (zbn g31) rfl rfl (.cons (.zaS (.cons (zaa _ _ (fun h=>nomatch h)) (.cons (zaa _ _ (fun h=>nomatch h)) (.cons (zaa _ _ (fun h=>nomatch h)) (.cons (zaa _ _ (fun h=>nomatch h)) .nil))))) (.cons (zaa _ _ (fun h=>nomatch h)) .nil)) ?_;obtain⟨r32,g33,h⟩:=bind_some h;try simp only[rnA,Nat.reduceLT]
  refine EvL.fnS (zbd g33) rfl rfl (.cons (zaf _ _ (fun h=>by cases h<;>contradiction)) (.cons (zaf _ _ (fun h=>by cases h<;>contradiction)) .nil)) ⟨(zac _ _),(zac _ _),qcf⟩ ⟨qcf,⟨⟨rfl,zac _ _,qcf⟩,⟨rfl,zac _ _,qcf⟩,qcf⟩⟩ ?_;try simp only[rnA,Nat.reduceLT]
  obtain⟨u34,g35,h⟩:=bind_some h;obtain⟨o4,j4,h⟩:=bind_some h;obtain⟨T4,hT4⟩:∃ T:(List Int)→List LB,T=(fun a=>[.cells [(fzE false (eI .i64) p0.vars),(fzE false (eI .i64) p0.zad),(fzE false (eI .i64) p0.w)],.cells [(fzE false (eI .i64) p1.vars),(fzE false (eI .i64) p1.zad),(fzE false (eI .i64) p1.w)],.cells [zar,zar,zar],.cells [(dI 0)],.cells [(fzE false (eI .i64) r1.1.factor.vars),(fzE false (eI .i64) r1.1.factor.zad),(fzE false (eI .i64) r1.1.factor.w),(fzE false (eI .i64) r1.1.steps)],.cells [(fzE false (eI .i64) r4.1.factor.vars),(fzE false (eI .i64) r4.1.factor.zad),(fzE false (eI .i64) r4.1.factor.w),(fzE false (eI .i64) r4.1.steps)],.els 1 (a.map ((eI .i64).c true)),.cells [(.sl 6 0 1 (Int.toNat r12.1) (some (Int.toNat r12.1)) (Int.toNat r12.1))],.lost]):=⟨_,rfl⟩;refine EvL.zeV (S':=⟨113,[(4,(.ptr 2 0)),(5,(.ptr 3 0)),(8,(.ptr 5 0)),(9,(fzE true (eI .i64) r10.1)),(10,(fzE true (eI .i64) r10.2)),(12,(.ptr 7 0)),(78,(.clo 135 [] [(.fptr false ((eL (eI .i64)).c false r32.1)),(.fptr false ((eL (eI .i64)).c false r32.2))]))],T4 l6⟩) (by rw[hT4]; exact wm0 [.k,.k,.k,.k,.k,.k,.k,.k,.k] ⟨MB.cs ⟨qcf,qcf,qcf,qcf⟩,⟨MB.cs ⟨qcf,qcf,qcf,qcf⟩,⟨MB.cs ⟨qcf,qcf,qcf,qcf⟩,⟨MB.cs ⟨qcf,qcf⟩,⟨MB.cs ⟨qcf,qcf,qcf,qcf,qcf⟩,⟨MB.cs ⟨qcf,qcf,qcf,qcf,qcf⟩,⟨MB.es (eI .i64) true l6,⟨MB.cs ⟨rfl,qcf⟩,⟨MB.same trivial,qcf⟩⟩⟩⟩⟩⟩⟩⟩⟩) ?_;refine EvL.zjd (n0:=9) (za9 g35) rfl (bm:=.block 3 (.seq (.reg true false [⟨some 82,.load none (.s 12),none⟩,⟨some 83,.mov (.s 15),none⟩,⟨some 84,.idxS 1 (.s 82) (.s 83),none⟩,⟨some 85,.load none (.s 84),none⟩,⟨some 86,.conv .u64 (.s 85),none⟩,⟨some 87,.fld 0 (.s 8),none⟩,⟨some 88,.fld 2 (.s 87),none⟩,⟨some 89,.load none (.s 88),none⟩,⟨some 90,.mov (.s 16),none⟩,⟨some 91,.idxS 1 (.s 89) (.s 90),none⟩,⟨some 92,.load none (.s 91),none⟩,⟨some 93,.conv .u64 (.s 92),none⟩,⟨some 94,.call 95 [(.s 86),(.s 93)],none⟩,⟨some 81,.mov (.s 94),none⟩,⟨some 95,.ext (.s 81) 0,none⟩,⟨some 96,.ext (.s 81) 1,none⟩,⟨some 17,.mov (.s 95),none⟩,⟨some 18,.mov (.s 96),none⟩]) (.seq (.seq (.scope (.reg false false [⟨some 97,.mov (.s 17),none⟩,⟨some 98,.bin .neq (.s 97) (.c (.int .u64 0)),none⟩,⟨some 99,.mov (.s 98),none⟩,⟨some 100,.mov (.s 18),some (99,false)⟩,⟨some 101,.bin .gtr (.s 100) (.c (.int .u64 4611686018427387903)),some (99,false)⟩,⟨some 102,.pick (.s 99) (.c (.bool true)) (.s 101),none⟩])) (.cond (.s 102) (.seq (.reg false false [⟨some 103,.build [(.slice none 0 0),(.slice none 0 0),(.slice none 0 0)] [],none⟩,⟨none,.store 3 (.s 4) (.s 103),none⟩,⟨none,.store 1 (.s 5) (.c (.int .i64 6)),none⟩]) (.ret)) (.skip))) (.reg false false [⟨some 104,.load none (.s 12),none⟩,⟨some 105,.mov (.s 15),none⟩,⟨some 106,.mov (.s 18),none⟩,⟨some 107,.conv .i64 (.s 106),none⟩,⟨some 108,.idxS 1 (.s 104) (.s 105),none⟩,⟨none,.store 1 (.s 108) (.s 107),none⟩])))) rfl T4 (fun i a=>zbM r4 r12 (u34.drop i) a=some o4∧a.length=(Int.toNat r12.1)) (fun x L1=>match x with | .normal=>∃ a,o4=.go a∧a.length=(Int.toNat r12.1)∧L1=T4 a | .ret=>L1.length=9∧zee (9+1) L1∧(zcH [.cell 4 (some 3),.cell 5 none] ((.tup [(.agg [(fzE true (eI .i64) r.1.vars),(fzE true (eI .i64) r.1.zad),(fzE true (eI .i64) r.1.w)]),(dI r.2)]))) .ret ⟨113,[(4,(.ptr 2 0)),(5,(.ptr 3 0)),(8,(.ptr 5 0)),(9,(fzE true (eI .i64) r10.1)),(10,(fzE true (eI .i64) r10.2)),(12,(.ptr 7 0)),(78,(.clo 135 [] [(.fptr false ((eL (eI .i64)).c false r32.1)),(.fptr false ((eL (eI .i64)).c false r32.2))]))],L1 ++ [.lost]⟩| _=>False) l6 ?_ (qaV _) ?_ ?_ ?_ (fun d L1 hx=>hx.elim) ?_ ?_ ?_ ?_ ?_ ?_
  ·intro a; rw[hT4]; rfl
  ·exact⟨(qac rfl),(qac rfl),(qac rfl),qcf,qcf,(qac rfl),⟨qcf,⟨qcf,qcf,qcf⟩⟩,qcf⟩
  ·intro a; rw[hT4]; exact⟨⟨qcf,qcf,qcf,qcf⟩,⟨qcf,qcf,qcf,qcf⟩,⟨qcf,qcf,qcf,qcf⟩,⟨qcf,qcf⟩,⟨qcf,qcf,qcf,qcf,qcf⟩,⟨qcf,qcf,qcf,qcf,qcf⟩,(zca (eI .i64) _ _ _),⟨(qac rfl),qcf⟩,qcf,qcf⟩
  ·intro x L1 hx;cases x with
   | normal=>obtain⟨a,_,_,rfl⟩:=hx; exact⟨by rw[hT4]; rfl,by rw[hT4]; exact⟨⟨qcf,qcf,qcf,qcf⟩,⟨qcf,qcf,qcf,qcf⟩,⟨qcf,qcf,qcf,qcf⟩,⟨qcf,qcf⟩,⟨qcf,qcf,qcf,qcf,qcf⟩,⟨qcf,qcf,qcf,qcf,qcf⟩,(zca (eI .i64) _ _ _),⟨(qac rfl),qcf⟩,qcf,qcf⟩⟩
   | ret=>exact⟨hx.1,hx.2.1⟩
   | exit id=>exact hx.elim
   | panic d=>exact hx.elim
  ·exact⟨j4,el6⟩
  ·rintro i l6' y36 args G lpF hy ⟨hi4,el6'⟩ ⟨rfl,rfl⟩ hkin;rw[zeN hy]at hi4;simp only[zbM]at hi4;refine⟨_,_,rfl,rfl,?_⟩;rw[congrFun hT4 l6'];refine zab ?_;obtain⟨x37,g38,hi4⟩:=bind_some hi4;obtain⟨x39,g40,hi4⟩:=bind_some hi4;obtain⟨r41,g42,hi4⟩:=bind_some hi4;try simp only[rnA,Nat.reduceEqDiff,Nat.reduceLT,Nat.reduceAdd,el6',zbh g38,(show y36.1<(((Int.toNat r12.1):Nat):Int)from el6' ▸ zbe g38),zaH g38 ((eI .i64).c true),zat (n:=1) (e:=(eI .i64)) rfl g40]
   refine EvL.fn (ziI g42) rfl rfl (.cons (.lit _) (.cons (.lit _) .nil)) ?_;try simp only[rnA,Nat.reduceEqDiff,Nat.reduceLT]
   obtain⟨o5,j5,hi4⟩:=bind_some hi4;obtain⟨T5,hT5⟩:=mkT fun a:Bool=>⟨113,[(4,(.ptr 2 0)),(5,(.ptr 3 0)),(12,(.ptr 7 0)),(15,(dI y36.1)),(18,(dU r41.2)),(102,(dB a))],[.cells [(fzE false (eI .i64) p0.vars),(fzE false (eI .i64) p0.zad),(fzE false (eI .i64) p0.w)],.cells [(fzE false (eI .i64) p1.vars),(fzE false (eI .i64) p1.zad),(fzE false (eI .i64) p1.w)],.cells [zar,zar,zar],.cells [(dI 0)],.cells [(fzE false (eI .i64) r1.1.factor.vars),(fzE false (eI .i64) r1.1.factor.zad),(fzE false (eI .i64) r1.1.factor.w),(fzE false (eI .i64) r1.1.steps)],.cells [(fzE false (eI .i64) r4.1.factor.vars),(fzE false (eI .i64) r4.1.factor.zad),(fzE false (eI .i64) r4.1.factor.w),(fzE false (eI .i64) r4.1.steps)],.els 1 (l6'.map ((eI .i64).c true)),.cells [(.sl 6 0 1 (Int.toNat r12.1) (some (Int.toNat r12.1)) (Int.toNat r12.1))],.lost,lpF,.els 1 (y36.2.2.map ((eI .i64).c true))]⟩
   refine EvL.jn T5 (fun a=>a=o5) ?_ ?_
   ·refine zab ?_;try simp only[rnA,Nat.reduceEqDiff,Nat.reduceLT]
    cases c43:(r41.1 == 0)
    ·rw[c43,cond_false]at j5;try simp only[rnA,Nat.reduceEqDiff,Nat.reduceLT]
     replace j5:=qab j5; subst j5;exact⟨_,rfl,by rw[hT5]; exact zbH.mK (k0:=11) [.k,.k,.k,.k,.k,.k,.k,.k,.k,.k,.k] rfl rfl (msq (msq (msq (msq (msq (msq trivial)))))) ⟨MB.cs ⟨qcf,qcf,qcf,qcf⟩,⟨MB.cs ⟨qcf,qcf,qcf,qcf⟩,⟨MB.cs ⟨qcf,qcf,qcf,qcf⟩,⟨MB.cs ⟨qcf,qcf⟩,⟨MB.cs ⟨qcf,qcf,qcf,qcf,qcf⟩,⟨MB.cs ⟨qcf,qcf,qcf,qcf,qcf⟩,⟨MB.es (eI .i64) true l6',⟨MB.cs ⟨rfl,qcf⟩,⟨MB.same trivial,⟨.same (hkin _ (by decide)),⟨MB.es (eI .i64) true y36.2.2,qcf⟩⟩⟩⟩⟩⟩⟩⟩⟩⟩⟩⟩
    rw[c43,cond_true]at j5;try simp only[rnA,Nat.reduceEqDiff,Nat.reduceLT]
    replace j5:=qab j5; subst j5;exact⟨_,rfl,by rw[hT5]; exact zbH.mK (k0:=11) [.k,.k,.k,.k,.k,.k,.k,.k,.k,.k,.k] rfl rfl (msq (msq (msq (msq (msq (msq trivial)))))) ⟨MB.cs ⟨qcf,qcf,qcf,qcf⟩,⟨MB.cs ⟨qcf,qcf,qcf,qcf⟩,⟨MB.cs ⟨qcf,qcf,qcf,qcf⟩,⟨MB.cs ⟨qcf,qcf⟩,⟨MB.cs ⟨qcf,qcf,qcf,qcf,qcf⟩,⟨MB.cs ⟨qcf,qcf,qcf,qcf,qcf⟩,⟨MB.es (eI .i64) true l6',⟨MB.cs ⟨rfl,qcf⟩,⟨MB.same trivial,⟨.same (hkin _ (by decide)),⟨MB.es (eI .i64) true y36.2.2,qcf⟩⟩⟩⟩⟩⟩⟩⟩⟩⟩⟩⟩
   rintro v102 rfl;rw[congrFun hT5 v102];refine zab ?_;try simp only[rnA,Nat.reduceEqDiff]
   cases c44:v102
   ·rw[c44,cond_false]at hi4;obtain⟨x45,g46,hi4⟩:=bind_some hi4;obtain⟨y47,g48,hi4⟩:=bind_some hi4;try simp only[rnA,Nat.reduceEqDiff,Nat.reduceLT,Nat.reduceLeDiff,el6',zbh g46,(show y36.1<(((Int.toNat r12.1):Nat):Int)from el6' ▸ zbe g46),zaH g46 ((eI .i64).c true),(show(l6'.map ((eI .i64).c true)).set y36.1.toNat [(dI (w64 r41.2))]=y47.map ((eI .i64).c true)from zbv g48 ((eI .i64).c true))]
    exact⟨T4 y47,by rw[hT4]; rfl,by rw[hT4]; exact zbH.mK [.k,.k,.k,.k,.k,.k,.k,.k,.k,.k,.k] rfl rfl qcf ⟨MB.cs ⟨qcf,qcf,qcf,qcf⟩,⟨MB.cs ⟨qcf,qcf,qcf,qcf⟩,⟨MB.cs ⟨qcf,qcf,qcf,qcf⟩,⟨MB.cs ⟨qcf,qcf⟩,⟨MB.cs ⟨qcf,qcf,qcf,qcf,qcf⟩,⟨MB.cs ⟨qcf,qcf,qcf,qcf,qcf⟩,⟨MB.es (eI .i64) true y47,⟨MB.cs ⟨rfl,qcf⟩,⟨MB.same trivial,⟨.same (hkin _ (by decide)),⟨MB.same (zcE _ _ _ _),qcf⟩⟩⟩⟩⟩⟩⟩⟩⟩⟩⟩,y47,⟨hi4,(za8 g48).trans el6'⟩,rfl⟩
   rw[c44,cond_true]at hi4;try simp only[rnA,Nat.reduceEqDiff,Nat.reduceLT,Nat.reduceAdd,Nat.reduceLeDiff]
   replace hi4:=qab hi4; subst hi4;dsimp only at h;replace h:=qab h; subst h;exact⟨[.cells [(fzE false (eI .i64) p0.vars),(fzE false (eI .i64) p0.zad),(fzE false (eI .i64) p0.w)],.cells [(fzE false (eI .i64) p1.vars),(fzE false (eI .i64) p1.zad),(fzE false (eI .i64) p1.w)],.cells [zar,zar,zar],.cells [(dI 6)],.cells [(fzE false (eI .i64) r1.1.factor.vars),(fzE false (eI .i64) r1.1.factor.zad),(fzE false (eI .i64) r1.1.factor.w),(fzE false (eI .i64) r1.1.steps)],.cells [(fzE false (eI .i64) r4.1.factor.vars),(fzE false (eI .i64) r4.1.factor.zad),(fzE false (eI .i64) r4.1.factor.w),(fzE false (eI .i64) r4.1.steps)],.els 1 (l6'.map ((eI .i64).c true)),.cells [(.sl 6 0 1 (Int.toNat r12.1) (some (Int.toNat r12.1)) (Int.toNat r12.1))],.lost],rfl,zbH.mK [.k,.k,.k,.k,.k,.k,.k,.k,.k,.k,.k] rfl rfl qcf ⟨MB.cs ⟨qcf,qcf,qcf,qcf⟩,⟨MB.cs ⟨qcf,qcf,qcf,qcf⟩,⟨MB.cs ⟨qcf,qcf,qcf,qcf⟩,⟨MB.cs ⟨qcf,qcf⟩,⟨MB.cs ⟨qcf,qcf,qcf,qcf,qcf⟩,⟨MB.cs ⟨qcf,qcf,qcf,qcf,qcf⟩,⟨MB.es (eI .i64) true l6',⟨MB.cs ⟨rfl,qcf⟩,⟨MB.same trivial,⟨.same (hkin _ (by decide)),⟨MB.same (zcE _ _ _ _),qcf⟩⟩⟩⟩⟩⟩⟩⟩⟩⟩⟩,rfl,⟨⟨qcf,qcf,qcf,qcf⟩,⟨qcf,qcf,qcf,qcf⟩,⟨qcf,qcf,qcf,qcf⟩,⟨qcf,qcf⟩,⟨qcf,qcf,qcf,qcf,qcf⟩,⟨qcf,qcf,qcf,qcf,qcf⟩,(zca (eI .i64) _ _ _),⟨(qac rfl),qcf⟩,qcf,qcf⟩,zcH.ret rfl (Snp.zdf (.cons (.zaS (.cons (zai (eI .i64)) (.cons (zai (eI .i64)) (.cons (zai (eI .i64)) .nil)))) (.cons (.lit _) .nil)))⟩
  ·rintro l6' ⟨hi4,el6'⟩;rw[qaW]at hi4;simp only[zbM]at hi4;exact⟨l6',(qab hi4).symm,el6',rfl⟩
  ·rintro _ ⟨l6',oeq,el6',rfl⟩;have oeq2:=oeq.symm;subst oeq2;dsimp only at h;rw[congrFun hT4 l6'];refine zab ?_;try simp only[rnA,Nat.reduceEqDiff,Nat.reduceLT,Nat.reduceAdd,Nat.reduceLeDiff]
   replace h:=qab h; subst h;exact zcH.ret rfl (Snp.zdf (.cons (.zaS (.cons (zaa _ _ (fun _=>rfl)) (.cons (zaa _ _ (fun _=>rfl)) (.cons (zb2 (e:=(eI .i64)) (t:=true) rfl (.inl rfl) (el6').symm (el6').symm (fun k h=>by cases h; exact qaj _) (fun _=>rfl)) .nil)))) (.cons (.lit _) .nil)))
  ·intro id L1 hx; exact hx.elim
  intro L1 hx; exact hx.2.2
 ·intro id L1 hx; exact hx.elim
 intro L1 hx; exact hx.2.2
def zcA(p0:S_api_Factor)(p1:Int):Option (S_api_Factor×Int):=
(zcN p0 p1).bind fun r1=>
some (r1.1,r1.2)
theorem zd8{p0:S_api_Factor}{p1:Int}{r:(S_api_Factor×Int)}(h:zcA p0 p1=some r):Lx.FnA mC 32 [(.agg [(fzE false (eI .i64) p0.vars),(fzE false (eI .i64) p0.zad),(fzE false (eI .i64) p0.w)]),(dI p1)] (.tup [(.agg [(fzE false (eI .i64) r.1.vars),(fzE false (eI .i64) r.1.zad),(fzE false (eI .i64) r.1.w)]),(dI r.2)]):=by
 refine zsp (by conv=>lhs; cbv) ?_;unfold zcA at h;refine zab ?_;obtain⟨r1,g2,h⟩:=bind_some h;try simp only[rnA,Nat.reduceEqDiff,reduceIte,Nat.reduceLT,Nat.reduceAdd,Nat.reduceLeDiff,Nat.reduceMul,Nat.reduceSub,Int.reduceLE,Int.reduceLT,Int.reduceBEq,Nat.reduceBEq,reduceCtorEq,zae,zcC]
 refine EvL.fnS (zfL g2) rfl rfl (.cons (Mzs.agg (.cons (zaf _ _ (fun h=>by cases h<;>contradiction)) (.cons (zaf _ _ (fun h=>by cases h<;>contradiction)) (.cons (zaf _ _ (fun h=>by cases h<;>contradiction)) .nil)))) (.cons (.lit _) (.cons (Mzs.agg (.cons zf0 .nil)) .nil))) ⟨⟨(zac _ _),(zac _ _),(zac _ _),qcf⟩,qcf,⟨⟨qcf,qcf⟩,qcf⟩,qcf⟩ ⟨⟨(zac _ _),(zac _ _),(zac _ _),qcf⟩,qcf,qcf⟩ ?_;try simp only[rnA,Nat.reduceEqDiff,reduceIte,Nat.reduceLT,Nat.reduceAdd,Nat.reduceLeDiff,Nat.reduceMul,Nat.reduceSub,Int.reduceLE,Int.reduceLT,Int.reduceBEq,Nat.reduceBEq,reduceCtorEq,zae]
 replace h:=qab h; subst h;exact ze4.ret rfl (Snp.zdf (.cons (.zaS (.cons (zaa _ _ (fun h=>nomatch h)) (.cons (zaa _ _ (fun h=>nomatch h)) (.cons (zaa _ _ (fun h=>nomatch h)) .nil)))) (.cons (.lit _) .nil)))
def zdj(p0:S_api_Factor)(p1:Int):Option (S_api_Factor×Int):=
(zcM p0 p1).bind fun r1=>
some (r1.1,r1.2)
theorem zgq{p0:S_api_Factor}{p1:Int}{r:(S_api_Factor×Int)}(h:zdj p0 p1=some r):Lx.FnA mC 33 [(.agg [(fzE false (eI .i64) p0.vars),(fzE false (eI .i64) p0.zad),(fzE false (eI .i64) p0.w)]),(dI p1)] (.tup [(.agg [(fzE false (eI .i64) r.1.vars),(fzE false (eI .i64) r.1.zad),(fzE false (eI .i64) r.1.w)]),(dI r.2)]):=by
 refine zsp (by conv=>lhs; cbv) ?_;unfold zdj at h;refine zab ?_;obtain⟨r1,g2,h⟩:=bind_some h;try simp only[rnA,Nat.reduceEqDiff,reduceIte,Nat.reduceLT,Nat.reduceAdd,Nat.reduceLeDiff,Nat.reduceMul,Nat.reduceSub,Int.reduceLE,Int.reduceLT,Int.reduceBEq,Nat.reduceBEq,reduceCtorEq,zae,zcC]
 refine EvL.fnS (zfj g2) rfl rfl (.cons (Mzs.agg (.cons (zaf _ _ (fun h=>by cases h<;>contradiction)) (.cons (zaf _ _ (fun h=>by cases h<;>contradiction)) (.cons (zaf _ _ (fun h=>by cases h<;>contradiction)) .nil)))) (.cons (.lit _) (.cons (Mzs.agg (.cons zf0 .nil)) .nil))) ⟨⟨(zac _ _),(zac _ _),(zac _ _),qcf⟩,qcf,⟨⟨qcf,qcf⟩,qcf⟩,qcf⟩ ⟨⟨(zac _ _),(zac _ _),(zac _ _),qcf⟩,qcf,qcf⟩ ?_;try simp only[rnA,Nat.reduceEqDiff,reduceIte,Nat.reduceLT,Nat.reduceAdd,Nat.reduceLeDiff,Nat.reduceMul,Nat.reduceSub,Int.reduceLE,Int.reduceLT,Int.reduceBEq,Nat.reduceBEq,reduceCtorEq,zae]
 replace h:=qab h; subst h;exact ze4.ret rfl (Snp.zdf (.cons (.zaS (.cons (zaa _ _ (fun h=>nomatch h)) (.cons (zaa _ _ (fun h=>nomatch h)) (.cons (zaa _ _ (fun h=>nomatch h)) .nil)))) (.cons (.lit _) .nil)))
def zcB(r1:(S_factor_table×Int))(r4:Int)(p2:Int)(q21:Int):List (Int×Int×(List Int))→(List Int)→Option (List Int)
 | [],l5=>some l5
 | y31 :: ys,l5=>(
(zbr r1.1.steps r4).bind fun x32=>
(zbr r1.1.factor.w (w64 (y31.2.1+(w64 (p2 * x32))))).bind fun x34=>
(zbr l5 y31.1).bind fun x36=>
(zgs l5 y31.1 x34).bind fun y38=>
zcB r1 r4 p2 q21 ys y38)
def zdt(p0:S_api_Factor)(p1:Int)(p2:Int):Option (S_api_Factor×Int):=
(zaw p0).bind fun r1=>
bif (r1.2 == 0)then(
(zak r1.1 p1).bind fun r4=>
bif (decide (r4<0))then(
some ((S_api_Factor.mk [] [] []),4))
else(
((bif (decide (p2<0))then(
some true)
else(
(zbr r1.1.factor.zad r4).bind fun x8=>
some (decide (x8≤p2))):Option Bool)).bind fun v42=>
bif v42 then(
some ((S_api_Factor.mk [] [] []),2))
else(
(zc6 8 r1.1.factor.vars).bind fun y11=>
(zpw y11 r4 (w64 (r4+1))).bind fun y13=>
(zc6 8 r1.1.factor.zad).bind fun y15=>
(zpw y15 r4 (w64 (r4+1))).bind fun y17=>
(zbr r1.1.factor.zad r4).bind fun x19=>
(zrz .i64 (r1.1.factor.w.length:Int) x19).bind fun q21=>
(zd3 8 q21 0).bind fun y23=>
(zaA r1.1 y13).bind fun r25=>
(zaT y17 r25).bind fun r27=>
(zoZ r27.1 r27.2).bind fun u29=>
((zcB r1 r4 p2 q21 u29 y23:Option (List Int))).bind fun l5=>
some ((S_api_Factor.mk y13 y17 l5),0))))
else(
some ((S_api_Factor.mk [] [] []),r1.2))
def zge:C:=
 .seq (rg [oW 3 0,
 oW 5 2,
 ⟨some 6,.alloc [(.slice none 0 0),(.slice none 0 0),(.slice none 0 0)],none⟩,
 oK 7 0])
 (.seq (rg [oN 17 3 3,
 oU 18 89 17,
 oM 16 18,
 oX 19 16 0,
 oX 20 16 1,
 ⟨some 8,.alloc [(.slice none 0 0),(.slice none 0 0),(.slice none 0 0),(.slice none 0 0)],none⟩,
 oS 4 8 19,
 oM 9 20])
 (.seq (.seq (rg [oM 21 9,
 oD 22 .neq 21 0])
 (.cond (.s 22) (.seq (rg [⟨some 23,.build [(.slice none 0 0),(.slice none 0 0),(.slice none 0 0)] [],none⟩,
 oM 24 9,
 oS 3 6 23,
 oM 7 24])
 (.ret))
 (.skip)))
 (.seq (rg [oN 25 4 8,
 oM 26 1,
 oV 27 96 25 26,
 ⟨some 10,.alloc [(.int .i64 0)],none⟩,
 oS 1 10 27])
 (.seq (.seq (rg [oL 28 10,
 oD 29 .lss 28 0])
 (.cond (.s 29) (.seq (rg [⟨some 30,.build [(.slice none 0 0),(.slice none 0 0),(.slice none 0 0)] [],none⟩,
 oS 3 6 30,
 oK 7 4])
 (.ret))
 (.skip)))
 (.seq (.seq (.scope (.reg true false [oL 31 5,
 oD 32 .lss 31 0,
 oM 33 32,
 oLg 34 5 33 false,
 oFg 35 0 8 33 false,
 oFg 36 1 35 33 false,
 oLg 37 36 33 false,
 oLg 38 10 33 false,
 ⟨some 39,.idxS 1 (.s 37) (.s 38),some (33,false)⟩,
 oLg 40 39 33 false,
 ⟨some 41,.bin .geq (.s 34) (.s 40),some (33,false)⟩,
 oP 42 33 41]))
 (.cond (.s 42) (.seq (rg [⟨some 43,.build [(.slice none 0 0),(.slice none 0 0),(.slice none 0 0)] [],none⟩,
 oS 3 6 43,
 oK 7 2])
 (.ret))
 (.skip)))
 (.seq (.reg true false [oF 44 0 8,
 oF 45 0 44,
 oL 46 45,
 oL 48 10,
 oL 49 10,
 oD 50 .add 49 1,
 oU 47 49 46,
 ⟨some 51,.call 103 [(.s 47),(.s 48),(.s 50)],none⟩,
 oM 11 51])
 (.seq (.reg true false [oF 52 0 8,
 oF 53 1 52,
 oL 54 53,
 oL 56 10,
 oL 57 10,
 oD 58 .add 57 1,
 oU 55 49 54,
 ⟨some 59,.call 103 [(.s 55),(.s 56),(.s 58)],none⟩,
 oM 12 59])
 (.seq (.reg true false [oF 60 0 8,
 oF 61 2 60,
 oL 62 61,
 oE 63 62,
 oF 64 0 8,
 oF 65 1 64,
 oL 66 65,
 oL 67 10,
 oI 68 1 66 67,
 oL 69 68,
 oB 70 .quo 63 69,
 ⟨some 71,.mk 1 8 [(.int .i64 0)] (.s 70) (.s 70),none⟩,
 ⟨some 13,.alloc [(.slice none 0 0)],none⟩,
 oS 1 13 71])
 (.seq (.seq (rg [oM 72 12,
 oN 73 4 8,
 oM 74 11,
 oV 75 94 73 74,
 oV 76 93 72 75])
 (.block 0 (.zdH (.s 76) [77,78] (.seq (rg [oM 14 77])
 (rg [oM 15 78]))
 (.block 1 (.reg true false [oL 79 13,
 oM 80 14,
 oF 81 0 8,
 oF 82 2 81,
 oL 83 82,
 oM 84 15,
 oL 85 5,
 oF 86 3 8,
 oL 87 86,
 oL 88 10,
 oI 89 1 87 88,
 oL 90 89,
 oB 91 .mul 85 90,
 oB 92 .add 84 91,
 oI 93 1 83 92,
 oL 94 93,
 oI 95 1 79 80,
 oS 1 95 94])))))
 (.seq (rg [oM 96 11,
 oM 97 12,
 oL 98 13,
 ⟨some 99,.build [(.slice none 0 0),(.slice none 0 0),(.slice none 0 0)] [(0,1,(.s 96)),(1,1,(.s 97)),(2,1,(.s 98))],none⟩,
 oS 3 6 99,
 oK 7 0])
 (.ret)))))))))))
theorem zhy:zgu mC 34=some (100,zge,[.cell 6 (some 3),.tmp 7],false):=za5 (by kernel_rfl)
theorem zfD{p0:S_api_Factor}{p1:Int}{p2:Int}{r:(S_api_Factor×Int)}(h:zdt p0 p1 p2=some r):Lx.Fn mC 34 [(.agg [(fzE false (eI .i64) p0.vars),(fzE false (eI .i64) p0.zad),(fzE false (eI .i64) p0.w)]),(dI p1),(dI p2)] (.tup [(.agg [(fzE true (eI .i64) r.1.vars),(fzE true (eI .i64) r.1.zad),(fzE true (eI .i64) r.1.w)]),(dI r.2)]):=by
 refine Fn.of zhy (zaW rfl) (qac rfl) ?_;unfold zdt at h;simp only[zge,zkp];refine zab ?_;obtain⟨r1,g2,h⟩:=bind_some h;try simp only[rnA,Nat.reduceEqDiff,Nat.reduceLT,Nat.reduceAdd,Nat.reduceLeDiff,reduceCtorEq]
 refine EvL.fnS (zaR g2) rfl rfl (.cons (Mzs.agg (.cons (zaf _ _ (fun h=>by cases h<;>contradiction)) (.cons (zaf _ _ (fun h=>by cases h<;>contradiction)) (.cons (zaf _ _ (fun h=>by cases h<;>contradiction)) .nil)))) .nil) ⟨⟨(zac _ _),(zac _ _),(zac _ _),qcf⟩,qcf⟩ ⟨⟨(zac _ _),(zac _ _),(zac _ _),(zac _ _),qcf⟩,qcf,qcf⟩ ?_;try simp only[rnA,Nat.reduceEqDiff,Nat.reduceLT,Nat.reduceAdd,Nat.reduceLeDiff,reduceCtorEq]
 cases c3:(r1.2 == 0)
 ·rw[c3,cond_false]at h;try simp only[rnA,Nat.reduceEqDiff,Nat.reduceLT,Nat.reduceAdd,Nat.reduceLeDiff,reduceCtorEq]
  replace h:=qab h; subst h;exact zcH.ret rfl (Snp.zdf (.cons (.zaS (.cons (zai (eI .i64)) (.cons (zai (eI .i64)) (.cons (zai (eI .i64)) .nil)))) (.cons (.lit _) .nil)))
 rw[c3,cond_true]at h;obtain⟨r4,g5,h⟩:=bind_some h;try simp only[rnA,Nat.reduceEqDiff,Nat.reduceLT,Nat.reduceAdd,Nat.reduceLeDiff,reduceCtorEq]
 refine EvL.fn (zam g5) rfl rfl (.cons (.zaS (.cons (zaa _ _ (fun h=>nomatch h)) (.cons (zaa _ _ (fun h=>nomatch h)) (.cons (zaa _ _ (fun h=>nomatch h)) (.cons (zaa _ _ (fun h=>nomatch h)) .nil))))) (.cons (.lit _) .nil)) ?_;try simp only[rnA,Nat.reduceEqDiff,Nat.reduceLT,Nat.reduceAdd,Nat.reduceLeDiff,reduceCtorEq]
 cases c6:(decide (r4<0))
 ·rw[c6,cond_false]at h;try simp only[rnA]
  obtain⟨o1,j1,h⟩:=bind_some h;obtain⟨T1,hT1⟩:=mkT fun a:Bool=>⟨100,[(5,(.ptr 1 0)),(6,(.ptr 2 0)),(8,(.ptr 3 0)),(10,(.ptr 4 0)),(42,(dB a))],[.gone,.cells [(dI p2)],.cells [zar,zar,zar],.cells [(fzE false (eI .i64) r1.1.factor.vars),(fzE false (eI .i64) r1.1.factor.zad),(fzE false (eI .i64) r1.1.factor.w),(fzE false (eI .i64) r1.1.steps)],.cells [(dI r4)]]⟩
  refine EvL.jn T1 (fun a=>a=o1) ?_ ?_
  ·refine zab ?_;try simp only[rnA,Nat.reduceEqDiff,Nat.reduceLT,reduceCtorEq]
   cases c7:(decide (p2<0))
   ·rw[c7,cond_false]at j1;obtain⟨x8,g9,j1⟩:=bind_some j1;try simp only[rnA,Nat.reduceEqDiff,Nat.reduceLT,reduceCtorEq,zat (n:=1) (e:=(eI .i64)) rfl g9]
    replace j1:=qab j1; subst j1;exact lfj hT1 rfl (wm0 [.d,.k,.k,.k,.k] ⟨rfl,⟨MB.cs ⟨qcf,qcf⟩,⟨MB.cs ⟨qcf,qcf,qcf,qcf⟩,⟨MB.cs ⟨qcf,qcf,qcf,qcf,qcf⟩,⟨MB.cs ⟨qcf,qcf⟩,qcf⟩⟩⟩⟩⟩)
   rw[c7,cond_true]at j1;try simp only[rnA,Nat.reduceEqDiff,Nat.reduceLT,reduceCtorEq]
   replace j1:=qab j1; subst j1;exact lfj hT1 rfl (wm0 [.d,.k,.k,.k,.k] ⟨rfl,⟨MB.cs ⟨qcf,qcf⟩,⟨MB.cs ⟨qcf,qcf,qcf,qcf⟩,⟨MB.cs ⟨qcf,qcf,qcf,qcf,qcf⟩,⟨MB.cs ⟨qcf,qcf⟩,qcf⟩⟩⟩⟩⟩)
  rintro v42 rfl;rw[congrFun hT1 v42];refine zab ?_;try simp only[rnA,Nat.reduceEqDiff]
  cases c10:v42
  ·rw[c10,cond_false]at h;obtain⟨y11,g12,h⟩:=bind_some h;try simp only[rnA,Nat.reduceEqDiff,Nat.reduceLT]
   refine EvL.clone (t:=false) (zs:=r1.1.factor.vars) g12 rfl rfl ?_;obtain⟨y13,g14,h⟩:=bind_some h;try simp only[rnA,Nat.reduceLT,Nat.reduceAdd]
   refine EvL.delete (zs:=y11) (t:=true) g14 rfl rfl rfl rfl rfl rfl ?_;refine EvL.zeV (S':=⟨100,[(5,(.ptr 1 0)),(6,(.ptr 2 0)),(8,(.ptr 3 0)),(10,(.ptr 4 0)),(51,(fzE true (eI .i64) y13))],[.gone,.cells [(dI p2)],.cells [zar,zar,zar],.cells [(fzE false (eI .i64) r1.1.factor.vars),(fzE false (eI .i64) r1.1.factor.zad),(fzE false (eI .i64) r1.1.factor.w),(fzE false (eI .i64) r1.1.steps)],.cells [(dI r4)]]⟩) (zbH.m0 [.d,.k,.k,.k,.k,.f] rfl (msq (msq (msq (msq (mf rfl (zg5 (xs:=y11) (ys:=y13) (t:=true) (ziX g14) rfl rfl rfl (fun _=>rfl)) trivial))))) ⟨rfl,⟨MB.cs ⟨qcf,qcf⟩,⟨MB.cs ⟨qcf,qcf,qcf,qcf⟩,⟨MB.cs ⟨qcf,qcf,qcf,qcf,qcf⟩,⟨MB.cs ⟨qcf,qcf⟩,qcf⟩⟩⟩⟩⟩) (zab ?_);obtain⟨y15,g16,h⟩:=bind_some h;try simp only[rnA,Nat.reduceEqDiff,Nat.reduceLT]
   refine EvL.clone (t:=false) (zs:=r1.1.factor.zad) g16 rfl rfl ?_;obtain⟨y17,g18,h⟩:=bind_some h;try simp only[rnA,Nat.reduceLT,Nat.reduceAdd]
   refine EvL.delete (zs:=y15) (t:=true) g18 rfl rfl rfl rfl rfl rfl ?_;refine EvL.zeV (S':=⟨100,[(5,(.ptr 1 0)),(6,(.ptr 2 0)),(8,(.ptr 3 0)),(10,(.ptr 4 0)),(11,(fzE true (eI .i64) y13)),(59,(fzE true (eI .i64) y17))],[.gone,.cells [(dI p2)],.cells [zar,zar,zar],.cells [(fzE false (eI .i64) r1.1.factor.vars),(fzE false (eI .i64) r1.1.factor.zad),(fzE false (eI .i64) r1.1.factor.w),(fzE false (eI .i64) r1.1.steps)],.cells [(dI r4)]]⟩) (zbH.m0 [.d,.k,.k,.k,.k,.f] rfl (msq (msq (msq (msq (msq (mf rfl (zg5 (xs:=y15) (ys:=y17) (t:=true) (ziX g18) rfl rfl rfl (fun _=>rfl)) trivial)))))) ⟨rfl,⟨MB.cs ⟨qcf,qcf⟩,⟨MB.cs ⟨qcf,qcf,qcf,qcf⟩,⟨MB.cs ⟨qcf,qcf,qcf,qcf,qcf⟩,⟨MB.cs ⟨qcf,qcf⟩,qcf⟩⟩⟩⟩⟩) (zab ?_);obtain⟨x19,g20,h⟩:=bind_some h;obtain⟨q21,g22,h⟩:=bind_some h;obtain⟨y23,g24,h⟩:=bind_some h;obtain⟨r25,g26,h⟩:=bind_some h;try simp only[rnA,Nat.reduceEqDiff,Nat.reduceLT,Nat.reduceAdd,Nat.reduceLeDiff,zaY,zat (n:=1) (e:=(eI .i64)) rfl g20,zlg g22,zm7 g22,(zas g24).1.1,(zas g24).1.2,qbv,(show List.replicate (Int.toNat q21) [(dI 0)]=y23.map ((eI .i64).c true)from zbD g24 ((eI .i64).c true))]
   refine EvL.fn (zbn g26) rfl rfl (.cons (.zaS (.cons (zaa _ _ (fun h=>nomatch h)) (.cons (zaa _ _ (fun h=>nomatch h)) (.cons (zaa _ _ (fun h=>nomatch h)) (.cons (zaa _ _ (fun h=>nomatch h)) .nil))))) (.cons (zaa _ _ (fun h=>nomatch h)) .nil)) ?_;obtain⟨r27,g28,h⟩:=bind_some h;try simp only[rnA,Nat.reduceLT]
   refine EvL.fnS (zbd g28) rfl rfl (.cons (zaf _ _ (fun h=>by cases h<;>contradiction)) (.cons (zaf _ _ (fun h=>by cases h<;>contradiction)) .nil)) ⟨(zac _ _),(zac _ _),qcf⟩ ⟨qcf,⟨⟨rfl,zac _ _,qcf⟩,⟨rfl,zac _ _,qcf⟩,qcf⟩⟩ ?_;try simp only[rnA,Nat.reduceLT]
   obtain⟨u29,g30,h⟩:=bind_some h;obtain⟨o2,j2,h⟩:=bind_some h;obtain⟨T2,hT2⟩:∃ T:(List Int)→List LB,T=(fun a=>[.gone,.cells [(dI p2)],.cells [zar,zar,zar],.cells [(fzE false (eI .i64) r1.1.factor.vars),(fzE false (eI .i64) r1.1.factor.zad),(fzE false (eI .i64) r1.1.factor.w),(fzE false (eI .i64) r1.1.steps)],.cells [(dI r4)],.els 1 (a.map ((eI .i64).c true)),.cells [(.sl 5 0 1 (Int.toNat q21) (some (Int.toNat q21)) (Int.toNat q21))]]):=⟨_,rfl⟩;refine EvL.zeV (S':=⟨100,[(5,(.ptr 1 0)),(6,(.ptr 2 0)),(8,(.ptr 3 0)),(10,(.ptr 4 0)),(11,(fzE true (eI .i64) y13)),(12,(fzE true (eI .i64) y17)),(13,(.ptr 6 0)),(76,(.clo 135 [] [(.fptr false ((eL (eI .i64)).c false r27.1)),(.fptr false ((eL (eI .i64)).c false r27.2))]))],T2 y23⟩) (by rw[hT2]; exact wm0 [.k,.k,.k,.k,.k,.k,.k] ⟨MB.same trivial,⟨MB.cs ⟨qcf,qcf⟩,⟨MB.cs ⟨qcf,qcf,qcf,qcf⟩,⟨MB.cs ⟨qcf,qcf,qcf,qcf,qcf⟩,⟨MB.cs ⟨qcf,qcf⟩,⟨MB.es (eI .i64) true y23,⟨MB.cs ⟨rfl,qcf⟩,qcf⟩⟩⟩⟩⟩⟩⟩) ?_;refine EvL.zjd (n0:=7) (za9 g30) rfl (bm:=.block 1 (.reg true false [⟨some 79,.load none (.s 13),none⟩,⟨some 80,.mov (.s 14),none⟩,⟨some 81,.fld 0 (.s 8),none⟩,⟨some 82,.fld 2 (.s 81),none⟩,⟨some 83,.load none (.s 82),none⟩,⟨some 84,.mov (.s 15),none⟩,⟨some 85,.load none (.s 5),none⟩,⟨some 86,.fld 3 (.s 8),none⟩,⟨some 87,.load none (.s 86),none⟩,⟨some 88,.load none (.s 10),none⟩,⟨some 89,.idxS 1 (.s 87) (.s 88),none⟩,⟨some 90,.load none (.s 89),none⟩,⟨some 91,.bin .mul (.s 85) (.s 90),none⟩,⟨some 92,.bin .add (.s 84) (.s 91),none⟩,⟨some 93,.idxS 1 (.s 83) (.s 92),none⟩,⟨some 94,.load none (.s 93),none⟩,⟨some 95,.idxS 1 (.s 79) (.s 80),none⟩,⟨none,.store 1 (.s 95) (.s 94),none⟩])) rfl T2 (fun i a=>zcB r1 r4 p2 q21 (u29.drop i) a=some o2∧a.length=(Int.toNat q21)) (fun x L1=>match x with | .normal=>∃ a,o2=a∧a.length=(Int.toNat q21)∧L1=T2 a | .ret=>L1.length=7∧zee (7+1) L1∧(zcH [.cell 6 (some 3),.tmp 7] ((.tup [(.agg [(fzE true (eI .i64) r.1.vars),(fzE true (eI .i64) r.1.zad),(fzE true (eI .i64) r.1.w)]),(dI r.2)]))) .ret ⟨100,[(5,(.ptr 1 0)),(6,(.ptr 2 0)),(8,(.ptr 3 0)),(10,(.ptr 4 0)),(11,(fzE true (eI .i64) y13)),(12,(fzE true (eI .i64) y17)),(13,(.ptr 6 0)),(76,(.clo 135 [] [(.fptr false ((eL (eI .i64)).c false r27.1)),(.fptr false ((eL (eI .i64)).c false r27.2))]))],L1 ++ [.lost]⟩| _=>False) y23 ?_ (qaV _) ?_ ?_ ?_ (fun d L1 hx=>hx.elim) ?_ ?_ ?_ ?_ ?_ ?_
   ·intro a; rw[hT2]; rfl
   ·exact⟨(qac rfl),(qac rfl),(qac rfl),(qac rfl),qcf,qcf,(qac rfl),⟨qcf,⟨qcf,qcf,qcf⟩⟩,qcf⟩
   ·intro a; rw[hT2]; exact⟨qcf,⟨qcf,qcf⟩,⟨qcf,qcf,qcf,qcf⟩,⟨qcf,qcf,qcf,qcf,qcf⟩,⟨qcf,qcf⟩,(zca (eI .i64) _ _ _),⟨(qac rfl),qcf⟩,qcf⟩
   ·intro x L1 hx;cases x with
    | normal=>obtain⟨a,_,_,rfl⟩:=hx; exact⟨by rw[hT2]; rfl,by rw[hT2]; exact⟨qcf,⟨qcf,qcf⟩,⟨qcf,qcf,qcf,qcf⟩,⟨qcf,qcf,qcf,qcf,qcf⟩,⟨qcf,qcf⟩,(zca (eI .i64) _ _ _),⟨(qac rfl),qcf⟩,qcf⟩⟩
    | ret=>exact⟨hx.1,hx.2.1⟩
    | exit id=>exact hx.elim
    | panic d=>exact hx.elim
   ·exact⟨j2,zbm g24⟩
   ·rintro i l5 y31 args G lpF hy ⟨hi2,el5⟩ ⟨rfl,rfl⟩ hkin;rw[zeN hy]at hi2;simp only[zcB]at hi2;refine⟨_,_,rfl,rfl,?_⟩;rw[congrFun hT2 l5];refine zab ?_;obtain⟨x32,g33,hi2⟩:=bind_some hi2;obtain⟨x34,g35,hi2⟩:=bind_some hi2;obtain⟨x36,g37,hi2⟩:=bind_some hi2;obtain⟨y38,g39,hi2⟩:=bind_some hi2;try simp only[rnA,Nat.reduceEqDiff,Nat.reduceLT,Nat.reduceAdd,Nat.reduceLeDiff,zat (n:=1) (e:=(eI .i64)) rfl g33,zat (n:=1) (e:=(eI .i64)) rfl g35,el5,zbh g37,(show y31.1<(((Int.toNat q21):Nat):Int)from el5 ▸ zbe g37),zaH g37 ((eI .i64).c true),(show(l5.map ((eI .i64).c true)).set y31.1.toNat [(dI x34)]=y38.map ((eI .i64).c true)from zbv g39 ((eI .i64).c true))]
    exact⟨T2 y38,by rw[hT2]; rfl,by rw[hT2]; exact zbH.mK [.k,.k,.k,.k,.k,.k,.k,.k,.k] rfl rfl qcf ⟨MB.same trivial,⟨MB.cs ⟨qcf,qcf⟩,⟨MB.cs ⟨qcf,qcf,qcf,qcf⟩,⟨MB.cs ⟨qcf,qcf,qcf,qcf,qcf⟩,⟨MB.cs ⟨qcf,qcf⟩,⟨MB.es (eI .i64) true y38,⟨MB.cs ⟨rfl,qcf⟩,⟨.same (hkin _ (by decide)),⟨MB.same (zcE _ _ _ _),qcf⟩⟩⟩⟩⟩⟩⟩⟩⟩,y38,⟨hi2,(za8 g39).trans el5⟩,rfl⟩
   ·rintro l5 ⟨hi2,el5⟩;rw[qaW]at hi2;simp only[zcB]at hi2;exact⟨l5,(qab hi2).symm,el5,rfl⟩
   ·rintro _ ⟨l5,oeq,el5,rfl⟩;have oeq2:=oeq.symm;subst oeq2;rw[congrFun hT2 l5];refine zab ?_;try simp only[rnA,Nat.reduceEqDiff,Nat.reduceLT,Nat.reduceAdd,Nat.reduceLeDiff]
    replace h:=qab h; subst h;exact zcH.ret rfl (Snp.zdf (.cons (.zaS (.cons (zaa _ _ (fun _=>rfl)) (.cons (zaa _ _ (fun _=>rfl)) (.cons (zb2 (e:=(eI .i64)) (t:=true) rfl (.inl rfl) (el5).symm (el5).symm (fun k h=>by cases h; exact qaj _) (fun _=>rfl)) .nil)))) (.cons (.lit _) .nil)))
   ·intro id L1 hx; exact hx.elim
   intro L1 hx; exact hx.2.2
  rw[c10,cond_true]at h;try simp only[rnA,Nat.reduceEqDiff,Nat.reduceLT,Nat.reduceAdd,Nat.reduceLeDiff]
  replace h:=qab h; subst h;exact zcH.ret rfl (Snp.zdf (.cons (.zaS (.cons (zai (eI .i64)) (.cons (zai (eI .i64)) (.cons (zai (eI .i64)) .nil)))) (.cons (.lit _) .nil)))
 rw[c6,cond_true]at h;try simp only[rnA,Nat.reduceEqDiff,Nat.reduceLT,Nat.reduceAdd,Nat.reduceLeDiff,reduceCtorEq]
 replace h:=qab h; subst h;exact zcH.ret rfl (Snp.zdf (.cons (.zaS (.cons (zai (eI .i64)) (.cons (zai (eI .i64)) (.cons (zai (eI .i64)) .nil)))) (.cons (.lit _) .nil)))
def zdE(p0:S_api_Factor):Option (Int×Int):=
(zaw p0).bind fun r1=>
bif (r1.2 == 0)then(
(zaM r1.1 []).bind fun r4=>
bif (r4.2 == 0)then(
(zbr r4.1.w 0).bind fun x7=>
some (x7,0))
else(
some (0,r4.2)))
else(
some (0,r1.2))
theorem zgU{p0:S_api_Factor}{r:(Int×Int)}(h:zdE p0=some r):Lx.Fn mC 40 [(.agg [(fzE false (eI .i64) p0.vars),(fzE false (eI .i64) p0.zad),(fzE false (eI .i64) p0.w)])] (.tup [(dI r.1),(dI r.2)]):=by
 refine fnO (by conv=>lhs; cbv) ?_;unfold zdE at h;refine zab ?_;obtain⟨r1,g2,h⟩:=bind_some h;try simp only[rnA,Nat.reduceEqDiff,reduceIte,Nat.reduceLT,Nat.reduceAdd,Nat.reduceLeDiff,Nat.reduceMul,Nat.reduceSub,Int.reduceLE,Int.reduceLT,Int.reduceBEq,Nat.reduceBEq,reduceCtorEq,zae,zcC]
 refine EvL.fnS (zaR g2) rfl rfl (.cons (Mzs.agg (.cons (zaf _ _ (fun h=>by cases h<;>contradiction)) (.cons (zaf _ _ (fun h=>by cases h<;>contradiction)) (.cons (zaf _ _ (fun h=>by cases h<;>contradiction)) .nil)))) .nil) ⟨⟨(zac _ _),(zac _ _),(zac _ _),qcf⟩,qcf⟩ ⟨⟨(zac _ _),(zac _ _),(zac _ _),(zac _ _),qcf⟩,qcf,qcf⟩ ?_;try simp only[rnA,Nat.reduceEqDiff,reduceIte,Nat.reduceLT,Nat.reduceAdd,Nat.reduceLeDiff,Nat.reduceMul,Nat.reduceSub,Int.reduceLE,Int.reduceLT,Int.reduceBEq,Nat.reduceBEq,reduceCtorEq,zae]
 cases c3:(r1.2 == 0)
 ·rw[c3,cond_false]at h;try simp only[rnA,Nat.reduceEqDiff,reduceIte,Nat.reduceLT,Nat.reduceAdd,Nat.reduceLeDiff,Nat.reduceMul,Nat.reduceSub,Int.reduceLE,Int.reduceLT,Int.reduceBEq,Nat.reduceBEq,reduceCtorEq,zae,c3]
  replace h:=qab h; subst h;exact zcH.ret rfl (Snp.zdf (.cons (.lit _) (.cons (.lit _) .nil)))
 rw[c3,cond_true]at h;obtain⟨r4,g5,h⟩:=bind_some h;try simp only[rnA,Nat.reduceEqDiff,reduceIte,Nat.reduceLT,Nat.reduceAdd,Nat.reduceLeDiff,Nat.reduceMul,Nat.reduceSub,Int.reduceLE,Int.reduceLT,Int.reduceBEq,Nat.reduceBEq,reduceCtorEq,zae,c3]
 refine EvL.fnS (zbu g5) rfl rfl (.cons (Mzs.agg (.cons (zaf _ _ (fun h=>by cases h<;>contradiction)) (.cons (zaf _ _ (fun h=>by cases h<;>contradiction)) (.cons (zaf _ _ (fun h=>by cases h<;>contradiction)) (.cons (zaf _ _ (fun h=>by cases h<;>contradiction)) .nil))))) (.cons (zia (eI .i64)) (.cons (Mzs.agg (.cons zf0 .nil)) .nil))) ⟨⟨(zac _ _),(zac _ _),(zac _ _),(zac _ _),qcf⟩,(zac _ _),⟨⟨qcf,qcf⟩,qcf⟩,qcf⟩ ⟨⟨(zac _ _),(zac _ _),(zac _ _),qcf⟩,qcf,qcf⟩ ?_;try simp only[rnA,Nat.reduceEqDiff,reduceIte,Nat.reduceLT,Nat.reduceAdd,Nat.reduceLeDiff,Nat.reduceMul,Nat.reduceSub,Int.reduceLE,Int.reduceLT,Int.reduceBEq,Nat.reduceBEq,reduceCtorEq,zae,c3]
 cases c6:(r4.2 == 0)
 ·rw[c6,cond_false]at h;try simp only[rnA,Nat.reduceEqDiff,reduceIte,Nat.reduceLT,Nat.reduceAdd,Nat.reduceLeDiff,Nat.reduceMul,Nat.reduceSub,Int.reduceLE,Int.reduceLT,Int.reduceBEq,Nat.reduceBEq,reduceCtorEq,zae,c3,c6]
  replace h:=qab h; subst h;exact zcH.ret rfl (Snp.zdf (.cons (.lit _) (.cons (.lit _) .nil)))
 rw[c6,cond_true]at h;obtain⟨x7,g8,h⟩:=bind_some h;try simp only[rnA,Nat.reduceEqDiff,reduceIte,Nat.reduceLT,Nat.reduceAdd,Nat.reduceLeDiff,Nat.reduceMul,Nat.reduceSub,Int.reduceLE,Int.reduceLT,Int.reduceBEq,Nat.reduceBEq,reduceCtorEq,zae,zat (n:=1) (e:=(eI .i64)) rfl g8,c3,c6]
 replace h:=qab h; subst h;exact zcH.ret rfl (Snp.zdf (.cons (.lit _) (.cons (.lit _) .nil)))
end Go.Dc
