/-
 What bits_Mul64 computes. Conditions: none.
-/
import Derived.Test.YtbjogdohfhdaiaaKfJ1
set_option linter.unusedSimpArgs false
set_option linter.unusedVariables false
set_option maxRecDepth 100000
set_option maxHeartbeats 4000000
namespace Go.Dc
open Go Go.Mx Go.Lx Go.Proofs
def zc4(p0:Int)(p1:Int):Option (Int×Int):=
(zoq .u64 p0 32).bind fun q1=>
(zoq .u64 p1 32).bind fun q3=>
(zoq .u64 (IntKind.u64.wrap ((zpE .u64 p0 4294967295)* (zpE .u64 p1 4294967295))) 32).bind fun q5=>
(zoq .u64 (IntKind.u64.wrap ((IntKind.u64.wrap (q1 * (zpE .u64 p1 4294967295)))+q5)) 32).bind fun q7=>
(zoq .u64 (IntKind.u64.wrap ((zpE .u64 (IntKind.u64.wrap ((IntKind.u64.wrap (q1 * (zpE .u64 p1 4294967295)))+q5)) 4294967295)+(IntKind.u64.wrap ((zpE .u64 p0 4294967295)* q3)))) 32).bind fun q9=>
some ((IntKind.u64.wrap ((IntKind.u64.wrap ((IntKind.u64.wrap (q1 * q3))+q7))+q9)),(IntKind.u64.wrap (p0 * p1)))
theorem ziI{p0:Int}{p1:Int}{r:(Int×Int)}(h:zc4 p0 p1=some r):Lx.Fn mC 86 [(dU p0),(dU p1)] (.tup [(dU r.1),(dU r.2)]):=by
 refine fnO (by conv=>lhs; cbv) ?_;unfold zc4 at h;refine zac ?_;obtain⟨q1,g2,h⟩:=bind_some h;obtain⟨q3,g4,h⟩:=bind_some h;obtain⟨q5,g6,h⟩:=bind_some h;obtain⟨q7,g8,h⟩:=bind_some h;obtain⟨q9,g10,h⟩:=bind_some h;try simp only[rnA,Nat.reduceEqDiff,reduceIte,Nat.reduceLT,Nat.reduceAdd,Nat.reduceLeDiff,Nat.reduceMul,Nat.reduceSub,Int.reduceLE,Int.reduceLT,Int.reduceBEq,Nat.reduceBEq,reduceCtorEq,(zcZ g2).1,(zcZ g2).2,(zcZ g4).1,(zcZ g4).2,(zcZ g6).1,(zcZ g6).2,(zcZ g8).1,(zcZ g8).2,(zcZ g10).1,(zcZ g10).2]
 replace h:=qab h; subst h;exact zcV.ret rfl (Snp.zdn (.cons (.lit _) (.cons (.lit _) .nil)))
def zbS(r4:(S_factor_table×Int))(r12:(Int×Int)):List (Int×Int×(List Int))→(List Int)→Option (Out (List Int) (S_api_Factor×Int))
 | [],l6'=>some (.go l6')
 | y36 :: ys,l6'=>(
(zbN l6' y36.1).bind fun x37=>
(zbN r4.1.factor.w y36.2.1).bind fun x39=>
(zc4 (IntKind.u64.wrap x37) (IntKind.u64.wrap x39)).bind fun r41=>
((bif (r41.1 == 0)then(
some (decide (4611686018427387903<r41.2)))
else(
some true):Option Bool)).bind fun v102=>
bif v102 then(
some (.ret ((S_api_Factor.mk [] [] []),6)))
else(
(zbN l6' y36.1).bind fun x45=>
(zgc l6' y36.1 (w64 r41.2)).bind fun y47=>
zbS r4 r12 ys y47))
def zbT(r1:(S_factor_table×Int))(r12:(Int×Int)):List (Int×Int×(List Int))→(List Int)→Option (List Int)
 | [],l6=>some l6
 | y23 :: ys,l6=>(
(zbN r1.1.factor.w y23.2.1).bind fun x24=>
(zbN l6 y23.1).bind fun x26=>
(zgc l6 y23.1 x24).bind fun y28=>
zbT r1 r12 ys y28)
def zaD(p0:S_api_Factor)(p1:S_api_Factor):Option (S_api_Factor×Int):=
(zaE p0).bind fun r1=>
bif (r1.2 == 0)then(
(zaE p1).bind fun r4=>
bif (r4.2 == 0)then(
(zbX r1.1 r4.1).bind fun r7=>
bif r7 then(
(zbz r1.1 r4.1).bind fun r10=>
(zce r10.2).bind fun r12=>
bif (r12.2 == 0)then(
(zdD 8 r12.1 0).bind fun y15=>
(zaI r1.1 r10.1).bind fun r17=>
(za1 r10.2 r17).bind fun r19=>
(zoy r19.1 r19.2).bind fun u21=>
((zbT r1 r12 u21 y15:Option (List Int))).bind fun l6=>
(zaI r4.1 r10.1).bind fun r30=>
(za1 r10.2 r30).bind fun r32=>
(zoy r32.1 r32.2).bind fun u34=>
((zbS r4 r12 u34 l6:Option (Out (List Int) (S_api_Factor×Int)))).bind fun o=>match o with
| .go l6'=>(
some ((S_api_Factor.mk r10.1 r10.2 l6'),0))
| .ret r=>some r)
else(
some ((S_api_Factor.mk [] [] []),3)))
else(
some ((S_api_Factor.mk [] [] []),2)))
else(
some ((S_api_Factor.mk [] [] []),r4.2)))
else(
some ((S_api_Factor.mk [] [] []),r1.2))
def zf1:C:=
 .seq (rg [oW 2 0,
 oW 3 1,
 ⟨some 4,.alloc [(.slice none 0 0),(.slice none 0 0),(.slice none 0 0)],none⟩,
 ⟨some 5,.alloc [(.int .i64 0)],none⟩])
 (.seq (rg [oN 20 3 2,
 oU 21 77 20,
 oM 19 21,
 oX 22 19 0,
 oX 23 19 1,
 ⟨some 6,.alloc [(.slice none 0 0),(.slice none 0 0),(.slice none 0 0),(.slice none 0 0)],none⟩,
 oS 4 6 22,
 oM 7 23])
 (.seq (.seq (rg [oM 24 7,
 oD 25 .neq 24 0])
 (.cond (.s 25) (.seq (rg [⟨some 26,.build [(.slice none 0 0),(.slice none 0 0),(.slice none 0 0)] [],none⟩,
 oM 27 7,
 oS 3 4 26,
 oS 1 5 27])
 (.ret))
 (.skip)))
 (.seq (rg [oN 29 3 3,
 oU 30 77 29,
 oM 28 30,
 oX 31 28 0,
 oX 32 28 1,
 ⟨some 8,.alloc [(.slice none 0 0),(.slice none 0 0),(.slice none 0 0),(.slice none 0 0)],none⟩,
 oS 4 8 31,
 oM 7 32])
 (.seq (.seq (rg [oM 33 7,
 oD 34 .neq 33 0])
 (.cond (.s 34) (.seq (rg [⟨some 35,.build [(.slice none 0 0),(.slice none 0 0),(.slice none 0 0)] [],none⟩,
 oM 36 7,
 oS 3 4 35,
 oS 1 5 36])
 (.ret))
 (.skip)))
 (.seq (.seq (rg [oN 37 4 6,
 oN 38 4 8,
 oV 39 81 37 38,
 ⟨some 40,.un .not (.s 39),none⟩])
 (.cond (.s 40) (.seq (rg [⟨some 41,.build [(.slice none 0 0),(.slice none 0 0),(.slice none 0 0)] [],none⟩,
 oS 3 4 41,
 ⟨none,.store 1 (.s 5) (.c (.int .i64 2)),none⟩])
 (.ret))
 (.skip)))
 (.seq (rg [oN 43 4 6,
 oN 44 4 8,
 oV 45 82 43 44,
 oM 42 45,
 oX 46 42 0,
 oX 47 42 1,
 oM 9 46,
 oM 10 47])
 (.seq (rg [oM 49 10,
 oU 50 83 49,
 oM 48 50,
 oX 51 48 0,
 oX 52 48 1,
 oM 11 51,
 oM 7 52])
 (.seq (.seq (rg [oM 53 7,
 oD 54 .neq 53 0])
 (.cond (.s 54) (.seq (rg [⟨some 55,.build [(.slice none 0 0),(.slice none 0 0),(.slice none 0 0)] [],none⟩,
 oS 3 4 55,
 ⟨none,.store 1 (.s 5) (.c (.int .i64 3)),none⟩])
 (.ret))
 (.skip)))
 (.seq (rg [oM 56 11,
 ⟨some 57,.mk 1 8 [(.int .i64 0)] (.s 56) (.s 56),none⟩,
 ⟨some 12,.alloc [(.slice none 0 0)],none⟩,
 oS 1 12 57])
 (.seq (.seq (rg [oM 58 10,
 oN 59 4 6,
 oM 60 9,
 oV 61 85 59 60,
 oV 62 84 58 61])
 (.block 0 (.zdB (.s 62) [63,64] (.seq (rg [oM 13 63])
 (rg [oM 14 64]))
 (.block 1 (.reg true false [oL 65 12,
 oM 66 13,
 oF 67 0 6,
 oF 68 2 67,
 oL 69 68,
 oM 70 14,
 oI 71 1 69 70,
 oL 72 71,
 oI 73 1 65 66,
 oS 1 73 72])))))
 (.seq (.seq (rg [oM 74 10,
 oN 75 4 8,
 oM 76 9,
 oV 77 85 75 76,
 oV 78 84 74 77])
 (.block 2 (.zdB (.s 78) [79,80] (.seq (rg [oM 15 79])
 (rg [oM 16 80]))
 (.block 3 (.seq (.reg true false [oL 82 12,
 oM 83 15,
 oI 84 1 82 83,
 oL 85 84,
 ⟨some 86,.conv .u64 (.s 85),none⟩,
 oF 87 0 8,
 oF 88 2 87,
 oL 89 88,
 oM 90 16,
 oI 91 1 89 90,
 oL 92 91,
 ⟨some 93,.conv .u64 (.s 92),none⟩,
 oV 94 86 86 93,
 oM 81 94,
 oX 95 81 0,
 oX 96 81 1,
 oM 17 95,
 oM 18 96])
 (.seq (.seq (rg [oM 97 17,
 oDu 98 .neq 97 0,
 oM 99 98,
 oMg 100 18 99 false,
 ⟨some 101,.bin .gtr (.s 100) (.c (.int .u64 4611686018427387903)),some (99,false)⟩,
 oP 102 99 101])
 (.cond (.s 102) (.seq (rg [⟨some 103,.build [(.slice none 0 0),(.slice none 0 0),(.slice none 0 0)] [],none⟩,
 oS 3 4 103,
 ⟨none,.store 1 (.s 5) (.c (.int .i64 6)),none⟩])
 (.ret))
 (.skip)))
 (rg [oL 104 12,
 oM 105 15,
 oM 106 18,
 ⟨some 107,.conv .i64 (.s 106),none⟩,
 oI 108 1 104 105,
 oS 1 108 107])))))))
 (.seq (rg [oM 109 9,
 oM 110 10,
 oL 111 12,
 ⟨some 112,.build [(.slice none 0 0),(.slice none 0 0),(.slice none 0 0)] [(0,1,(.s 109)),(1,1,(.s 110)),(2,1,(.s 111))],none⟩,
 oS 3 4 112,
 ⟨none,.store 1 (.s 5) (.c (.int .i64 0)),none⟩])
 (.ret)))))))))))))
theorem zhd:zgs mC 31=some (113,zf1,[.cell 4 (some 3),.cell 5 none],false):=zbj (by kernel_rfl)
theorem zbu{p0:S_api_Factor}{p1:S_api_Factor}{r:(S_api_Factor×Int)}(h:zaD p0 p1=some r):Lx.Fn mC 31 [(.agg [(fzE false (eI .i64) p0.vars),(fzE false (eI .i64) p0.cards),(fzE false (eI .i64) p0.w)]),(.agg [(fzE false (eI .i64) p1.vars),(fzE false (eI .i64) p1.cards),(fzE false (eI .i64) p1.w)])] (.tup [(.agg [(fzE true (eI .i64) r.1.vars),(fzE true (eI .i64) r.1.cards),(fzE true (eI .i64) r.1.w)]),(dI r.2)]):=by
 refine Fn.of zhd (zbc rfl) (qac rfl) ?_;unfold zaD at h;simp only[zf1,zkx];refine zac ?_;obtain⟨r1,g2,h⟩:=bind_some h;try simp only[rnA,Nat.reduceEqDiff,Nat.reduceLT,Nat.reduceAdd,Nat.reduceLeDiff,reduceCtorEq]
 refine EvL.fnS (zaX g2) rfl rfl (.cons (Mzs.agg (.cons (zad _ _ (fun h=>by cases h<;>contradiction)) (.cons (zad _ _ (fun h=>by cases h<;>contradiction)) (.cons (zad _ _ (fun h=>by cases h<;>contradiction)) .nil)))) .nil) ⟨⟨(zab _ _),(zab _ _),(zab _ _),qcb⟩,qcb⟩ ⟨⟨(zab _ _),(zab _ _),(zab _ _),(zab _ _),qcb⟩,qcb,qcb⟩ ?_;try simp only[rnA,Nat.reduceEqDiff,Nat.reduceLT,Nat.reduceAdd,Nat.reduceLeDiff,reduceCtorEq]
 cases c3:(r1.2 == 0)
 ·rw[c3,cond_false]at h;try simp only[rnA,Nat.reduceEqDiff,Nat.reduceLT,Nat.reduceAdd,Nat.reduceLeDiff,reduceCtorEq]
  replace h:=qab h; subst h;exact zcV.ret rfl (Snp.zdn (.cons (.zaG (.cons (zai (eI .i64)) (.cons (zai (eI .i64)) (.cons (zai (eI .i64)) .nil)))) (.cons (.lit _) .nil)))
 rw[c3,cond_true]at h;obtain⟨r4,g5,h⟩:=bind_some h;try simp only[rnA,Nat.reduceEqDiff,Nat.reduceLT,Nat.reduceAdd,Nat.reduceLeDiff,reduceCtorEq]
 refine EvL.fnS (zaX g5) rfl rfl (.cons (Mzs.agg (.cons (zad _ _ (fun h=>by cases h<;>contradiction)) (.cons (zad _ _ (fun h=>by cases h<;>contradiction)) (.cons (zad _ _ (fun h=>by cases h<;>contradiction)) .nil)))) .nil) ⟨⟨(zab _ _),(zab _ _),(zab _ _),qcb⟩,qcb⟩ ⟨⟨(zab _ _),(zab _ _),(zab _ _),(zab _ _),qcb⟩,qcb,qcb⟩ ?_;try simp only[rnA,Nat.reduceEqDiff,Nat.reduceLT,Nat.reduceAdd,Nat.reduceLeDiff,reduceCtorEq]
 cases c6:(r4.2 == 0)
 ·rw[c6,cond_false]at h;try simp only[rnA,Nat.reduceEqDiff,Nat.reduceLT,Nat.reduceAdd,Nat.reduceLeDiff,reduceCtorEq]
  replace h:=qab h; subst h;exact zcV.ret rfl (Snp.zdn (.cons (.zaG (.cons (zai (eI .i64)) (.cons (zai (eI .i64)) (.cons (zai (eI .i64)) .nil)))) (.cons (.lit _) .nil)))
 rw[c6,cond_true]at h;obtain⟨r7,g8,h⟩:=bind_some h;try simp only[rnA,Nat.reduceEqDiff,Nat.reduceLT,Nat.reduceAdd,Nat.reduceLeDiff,reduceCtorEq]
 refine EvL.fn (zeg g8) rfl rfl (.cons (.zaG (.cons (zaa _ _ (fun h=>nomatch h)) (.cons (zaa _ _ (fun h=>nomatch h)) (.cons (zaa _ _ (fun h=>nomatch h)) (.cons (zaa _ _ (fun h=>nomatch h)) .nil))))) (.cons (.zaG (.cons (zaa _ _ (fun h=>nomatch h)) (.cons (zaa _ _ (fun h=>nomatch h)) (.cons (zaa _ _ (fun h=>nomatch h)) (.cons (zaa _ _ (fun h=>nomatch h)) .nil))))) .nil)) ?_;try simp only[rnA,Nat.reduceEqDiff,Nat.reduceLT,reduceCtorEq]
 cases c9:r7
 ·rw[c9,cond_false]at h;try simp only[rnA,Nat.reduceEqDiff,Nat.reduceLT,Nat.reduceAdd,Nat.reduceLeDiff,reduceCtorEq]
  replace h:=qab h; subst h;exact zcV.ret rfl (Snp.zdn (.cons (.zaG (.cons (zai (eI .i64)) (.cons (zai (eI .i64)) (.cons (zai (eI .i64)) .nil)))) (.cons (.lit _) .nil)))
 rw[c9,cond_true]at h;obtain⟨r10,g11,h⟩:=bind_some h;try simp only[rnA,Nat.reduceEqDiff,Nat.reduceLT,Nat.reduceAdd,Nat.reduceLeDiff,reduceCtorEq]
 refine EvL.fn (zgr g11) rfl rfl (.cons (.zaG (.cons (zaa _ _ (fun h=>nomatch h)) (.cons (zaa _ _ (fun h=>nomatch h)) (.cons (zaa _ _ (fun h=>nomatch h)) (.cons (zaa _ _ (fun h=>nomatch h)) .nil))))) (.cons (.zaG (.cons (zaa _ _ (fun h=>nomatch h)) (.cons (zaa _ _ (fun h=>nomatch h)) (.cons (zaa _ _ (fun h=>nomatch h)) (.cons (zaa _ _ (fun h=>nomatch h)) .nil))))) .nil)) ?_;obtain⟨r12,g13,h⟩:=bind_some h;try simp only[rnA,Nat.reduceEqDiff,Nat.reduceLT,reduceCtorEq]
 refine EvL.fn (zff g13) rfl rfl (.cons (zaa _ _ (fun h=>nomatch h)) .nil) ?_;try simp only[rnA,Nat.reduceEqDiff,Nat.reduceLT,reduceCtorEq]
 cases c14:(r12.2 == 0)
 ·rw[c14,cond_false]at h;try simp only[rnA,Nat.reduceEqDiff,Nat.reduceLT,Nat.reduceAdd,Nat.reduceLeDiff,reduceCtorEq]
  replace h:=qab h; subst h;exact zcV.ret rfl (Snp.zdn (.cons (.zaG (.cons (zai (eI .i64)) (.cons (zai (eI .i64)) (.cons (zai (eI .i64)) .nil)))) (.cons (.lit _) .nil)))
 rw[c14,cond_true]at h;obtain⟨y15,g16,h⟩:=bind_some h;obtain⟨r17,g18,h⟩:=bind_some h;try simp only[rnA,Nat.reduceEqDiff,Nat.reduceLT,Nat.reduceAdd,Nat.reduceLeDiff,reduceCtorEq,(zau g16).1.1,(zau g16).1.2,qbn,(show List.replicate (Int.toNat r12.1) [(dI 0)]=y15.map ((eI .i64).c true)from zbw g16 ((eI .i64).c true))]
 refine EvL.fn (zby g18) rfl rfl (.cons (.zaG (.cons (zaa _ _ (fun h=>nomatch h)) (.cons (zaa _ _ (fun h=>nomatch h)) (.cons (zaa _ _ (fun h=>nomatch h)) (.cons (zaa _ _ (fun h=>nomatch h)) .nil))))) (.cons (zaa _ _ (fun h=>nomatch h)) .nil)) ?_;obtain⟨r19,g20,h⟩:=bind_some h;try simp only[rnA,Nat.reduceLT]
 refine EvL.fnS (zbm g20) rfl rfl (.cons (zad _ _ (fun h=>by cases h<;>contradiction)) (.cons (zad _ _ (fun h=>by cases h<;>contradiction)) .nil)) ⟨(zab _ _),(zab _ _),qcb⟩ ⟨qcb,⟨⟨rfl,zab _ _,qcb⟩,⟨rfl,zab _ _,qcb⟩,qcb⟩⟩ ?_;try simp only[rnA,Nat.reduceLT]
 obtain⟨u21,g22,h⟩:=bind_some h;obtain⟨o1,j1,h⟩:=bind_some h;obtain⟨T1,hT1⟩:∃ T:(List Int)→List LB,T=(fun a=>[.cells [(fzE false (eI .i64) p0.vars),(fzE false (eI .i64) p0.cards),(fzE false (eI .i64) p0.w)],.cells [(fzE false (eI .i64) p1.vars),(fzE false (eI .i64) p1.cards),(fzE false (eI .i64) p1.w)],.cells [zaL,zaL,zaL],.cells [(dI 0)],.cells [(fzE false (eI .i64) r1.1.factor.vars),(fzE false (eI .i64) r1.1.factor.cards),(fzE false (eI .i64) r1.1.factor.w),(fzE false (eI .i64) r1.1.steps)],.cells [(fzE false (eI .i64) r4.1.factor.vars),(fzE false (eI .i64) r4.1.factor.cards),(fzE false (eI .i64) r4.1.factor.w),(fzE false (eI .i64) r4.1.steps)],.els 1 (a.map ((eI .i64).c true)),.cells [(.sl 6 0 1 (Int.toNat r12.1) (some (Int.toNat r12.1)) (Int.toNat r12.1))]]):=⟨_,rfl⟩;refine EvL.zcY (S':=⟨113,[(4,(.ptr 2 0)),(5,(.ptr 3 0)),(6,(.ptr 4 0)),(8,(.ptr 5 0)),(9,(fzE true (eI .i64) r10.1)),(10,(fzE true (eI .i64) r10.2)),(12,(.ptr 7 0)),(62,(.clo 120 [] [(.fptr false ((eL (eI .i64)).c false r19.1)),(.fptr false ((eL (eI .i64)).c false r19.2))]))],T1 y15⟩) (by rw[hT1]; exact wm0 [.k,.k,.k,.k,.k,.k,.k,.k] ⟨MB.cs ⟨qcb,qcb,qcb,qcb⟩,⟨MB.cs ⟨qcb,qcb,qcb,qcb⟩,⟨MB.cs ⟨qcb,qcb,qcb,qcb⟩,⟨MB.cs ⟨qcb,qcb⟩,⟨MB.cs ⟨qcb,qcb,qcb,qcb,qcb⟩,⟨MB.cs ⟨qcb,qcb,qcb,qcb,qcb⟩,⟨MB.es (eI .i64) true y15,⟨MB.cs ⟨rfl,qcb⟩,qcb⟩⟩⟩⟩⟩⟩⟩⟩) ?_;refine EvL.zhU (n0:=8) (zbf g22) rfl (bm:=.block 1 (.reg true false [⟨some 65,.load none (.s 12),none⟩,⟨some 66,.mov (.s 13),none⟩,⟨some 67,.fld 0 (.s 6),none⟩,⟨some 68,.fld 2 (.s 67),none⟩,⟨some 69,.load none (.s 68),none⟩,⟨some 70,.mov (.s 14),none⟩,⟨some 71,.idxS 1 (.s 69) (.s 70),none⟩,⟨some 72,.load none (.s 71),none⟩,⟨some 73,.idxS 1 (.s 65) (.s 66),none⟩,⟨none,.store 1 (.s 73) (.s 72),none⟩])) rfl T1 (fun i a=>zbT r1 r12 (u21.drop i) a=some o1∧a.length=(Int.toNat r12.1)) (fun x L1=>match x with | .normal=>∃ a,o1=a∧a.length=(Int.toNat r12.1)∧L1=T1 a | .ret=>L1.length=8∧zd8 (8+1) L1∧(zcV [.cell 4 (some 3),.cell 5 none] ((.tup [(.agg [(fzE true (eI .i64) r.1.vars),(fzE true (eI .i64) r.1.cards),(fzE true (eI .i64) r.1.w)]),(dI r.2)]))) .ret ⟨113,[(4,(.ptr 2 0)),(5,(.ptr 3 0)),(6,(.ptr 4 0)),(8,(.ptr 5 0)),(9,(fzE true (eI .i64) r10.1)),(10,(fzE true (eI .i64) r10.2)),(12,(.ptr 7 0)),(62,(.clo 120 [] [(.fptr false ((eL (eI .i64)).c false r19.1)),(.fptr false ((eL (eI .i64)).c false r19.2))]))],L1 ++ [.lost]⟩| _=>False) y15 ?_ (qaU _) ?_ ?_ ?_ (fun d L1 hx=>hx.elim) ?_ ?_ ?_ ?_ ?_ ?_
 ·intro a; rw[hT1]; rfl
 ·exact⟨(qac rfl),(qac rfl),(qac rfl),(qac rfl),qcb,qcb,(qac rfl),⟨qcb,⟨qcb,qcb,qcb⟩⟩,qcb⟩
 ·intro a; rw[hT1]; exact⟨⟨qcb,qcb,qcb,qcb⟩,⟨qcb,qcb,qcb,qcb⟩,⟨qcb,qcb,qcb,qcb⟩,⟨qcb,qcb⟩,⟨qcb,qcb,qcb,qcb,qcb⟩,⟨qcb,qcb,qcb,qcb,qcb⟩,(zcj (eI .i64) _ _ _),⟨(qac rfl),qcb⟩,qcb⟩
 ·intro x L1 hx;cases x with
  | normal=>obtain⟨a,_,_,rfl⟩:=hx; exact⟨by rw[hT1]; rfl,by rw[hT1]; exact⟨⟨qcb,qcb,qcb,qcb⟩,⟨qcb,qcb,qcb,qcb⟩,⟨qcb,qcb,qcb,qcb⟩,⟨qcb,qcb⟩,⟨qcb,qcb,qcb,qcb,qcb⟩,⟨qcb,qcb,qcb,qcb,qcb⟩,(zcj (eI .i64) _ _ _),⟨(qac rfl),qcb⟩,qcb⟩⟩
  | ret=>exact⟨hx.1,hx.2.1⟩
  | exit id=>exact hx.elim
  | panic d=>exact hx.elim
 ·exact⟨j1,zaC g16⟩
 ·rintro i l6 y23 args G lpF hy ⟨hi1,el6⟩ ⟨rfl,rfl⟩ hkin;rw[zew hy]at hi1;simp only[zbT]at hi1;refine⟨_,_,rfl,rfl,?_⟩;rw[congrFun hT1 l6];refine zac ?_;obtain⟨x24,g25,hi1⟩:=bind_some hi1;obtain⟨x26,g27,hi1⟩:=bind_some hi1;obtain⟨y28,g29,hi1⟩:=bind_some hi1;try simp only[rnA,Nat.reduceEqDiff,Nat.reduceLT,Nat.reduceAdd,Nat.reduceLeDiff,zaB (n:=1) (e:=(eI .i64)) rfl g25,el6,zbq g27,(show y23.1<(((Int.toNat r12.1):Nat):Int)from el6 ▸ zbr g27),zaQ g27 ((eI .i64).c true),(show(l6.map ((eI .i64).c true)).set y23.1.toNat [(dI x24)]=y28.map ((eI .i64).c true)from zbE g29 ((eI .i64).c true))]
  exact⟨T1 y28,by rw[hT1]; rfl,by rw[hT1]; exact zbl.mK [.k,.k,.k,.k,.k,.k,.k,.k,.k,.k] rfl rfl qcb ⟨MB.cs ⟨qcb,qcb,qcb,qcb⟩,⟨MB.cs ⟨qcb,qcb,qcb,qcb⟩,⟨MB.cs ⟨qcb,qcb,qcb,qcb⟩,⟨MB.cs ⟨qcb,qcb⟩,⟨MB.cs ⟨qcb,qcb,qcb,qcb,qcb⟩,⟨MB.cs ⟨qcb,qcb,qcb,qcb,qcb⟩,⟨MB.es (eI .i64) true y28,⟨MB.cs ⟨rfl,qcb⟩,⟨.same (hkin _ (by decide)),⟨MB.same (zcT _ _ _ _),qcb⟩⟩⟩⟩⟩⟩⟩⟩⟩⟩,y28,⟨hi1,(zbd g29).trans el6⟩,rfl⟩
 ·rintro l6 ⟨hi1,el6⟩;rw[qaY]at hi1;simp only[zbT]at hi1;exact⟨l6,(qab hi1).symm,el6,rfl⟩
 ·rintro _ ⟨l6,oeq,el6,rfl⟩;have oeq2:=oeq.symm;subst oeq2;rw[congrFun hT1 l6];refine zac ?_;obtain⟨r30,g31,h⟩:=bind_some h;try simp only[rnA,Nat.reduceEqDiff,Nat.reduceLT,Nat.reduceAdd,Nat.reduceLeDiff]
  refine EvL.fn (zby g31) rfl rfl (.cons (.zaG (.cons (zaa _ _ (fun h=>nomatch h)) (.cons (zaa _ _ (fun h=>nomatch h)) (.cons (zaa _ _ (fun h=>nomatch h)) (.cons (zaa _ _ (fun h=>nomatch h)) .nil))))) (.cons (zaa _ _ (fun h=>nomatch h)) .nil)) ?_;obtain⟨r32,g33,h⟩:=bind_some h;try simp only[rnA,Nat.reduceLT]
  refine EvL.fnS (zbm g33) rfl rfl (.cons (zad _ _ (fun h=>by cases h<;>contradiction)) (.cons (zad _ _ (fun h=>by cases h<;>contradiction)) .nil)) ⟨(zab _ _),(zab _ _),qcb⟩ ⟨qcb,⟨⟨rfl,zab _ _,qcb⟩,⟨rfl,zab _ _,qcb⟩,qcb⟩⟩ ?_;try simp only[rnA,Nat.reduceLT]
  obtain⟨u34,g35,h⟩:=bind_some h;obtain⟨o4,j4,h⟩:=bind_some h;obtain⟨T4,hT4⟩:∃ T:(List Int)→List LB,T=(fun a=>[.cells [(fzE false (eI .i64) p0.vars),(fzE false (eI .i64) p0.cards),(fzE false (eI .i64) p0.w)],.cells [(fzE false (eI .i64) p1.vars),(fzE false (eI .i64) p1.cards),(fzE false (eI .i64) p1.w)],.cells [zaL,zaL,zaL],.cells [(dI 0)],.cells [(fzE false (eI .i64) r1.1.factor.vars),(fzE false (eI .i64) r1.1.factor.cards),(fzE false (eI .i64) r1.1.factor.w),(fzE false (eI .i64) r1.1.steps)],.cells [(fzE false (eI .i64) r4.1.factor.vars),(fzE false (eI .i64) r4.1.factor.cards),(fzE false (eI .i64) r4.1.factor.w),(fzE false (eI .i64) r4.1.steps)],.els 1 (a.map ((eI .i64).c true)),.cells [(.sl 6 0 1 (Int.toNat r12.1) (some (Int.toNat r12.1)) (Int.toNat r12.1))],.lost]):=⟨_,rfl⟩;refine EvL.zcY (S':=⟨113,[(4,(.ptr 2 0)),(5,(.ptr 3 0)),(8,(.ptr 5 0)),(9,(fzE true (eI .i64) r10.1)),(10,(fzE true (eI .i64) r10.2)),(12,(.ptr 7 0)),(78,(.clo 120 [] [(.fptr false ((eL (eI .i64)).c false r32.1)),(.fptr false ((eL (eI .i64)).c false r32.2))]))],T4 l6⟩) (by rw[hT4]; exact wm0 [.k,.k,.k,.k,.k,.k,.k,.k,.k] ⟨MB.cs ⟨qcb,qcb,qcb,qcb⟩,⟨MB.cs ⟨qcb,qcb,qcb,qcb⟩,⟨MB.cs ⟨qcb,qcb,qcb,qcb⟩,⟨MB.cs ⟨qcb,qcb⟩,⟨MB.cs ⟨qcb,qcb,qcb,qcb,qcb⟩,⟨MB.cs ⟨qcb,qcb,qcb,qcb,qcb⟩,⟨MB.es (eI .i64) true l6,⟨MB.cs ⟨rfl,qcb⟩,⟨MB.same trivial,qcb⟩⟩⟩⟩⟩⟩⟩⟩⟩) ?_;refine EvL.zhU (n0:=9) (zbf g35) rfl (bm:=.block 3 (.seq (.reg true false [⟨some 82,.load none (.s 12),none⟩,⟨some 83,.mov (.s 15),none⟩,⟨some 84,.idxS 1 (.s 82) (.s 83),none⟩,⟨some 85,.load none (.s 84),none⟩,⟨some 86,.conv .u64 (.s 85),none⟩,⟨some 87,.fld 0 (.s 8),none⟩,⟨some 88,.fld 2 (.s 87),none⟩,⟨some 89,.load none (.s 88),none⟩,⟨some 90,.mov (.s 16),none⟩,⟨some 91,.idxS 1 (.s 89) (.s 90),none⟩,⟨some 92,.load none (.s 91),none⟩,⟨some 93,.conv .u64 (.s 92),none⟩,⟨some 94,.call 86 [(.s 86),(.s 93)],none⟩,⟨some 81,.mov (.s 94),none⟩,⟨some 95,.ext (.s 81) 0,none⟩,⟨some 96,.ext (.s 81) 1,none⟩,⟨some 17,.mov (.s 95),none⟩,⟨some 18,.mov (.s 96),none⟩]) (.seq (.seq (.scope (.reg false false [⟨some 97,.mov (.s 17),none⟩,⟨some 98,.bin .neq (.s 97) (.c (.int .u64 0)),none⟩,⟨some 99,.mov (.s 98),none⟩,⟨some 100,.mov (.s 18),some (99,false)⟩,⟨some 101,.bin .gtr (.s 100) (.c (.int .u64 4611686018427387903)),some (99,false)⟩,⟨some 102,.pick (.s 99) (.c (.bool true)) (.s 101),none⟩])) (.cond (.s 102) (.seq (.reg false false [⟨some 103,.build [(.slice none 0 0),(.slice none 0 0),(.slice none 0 0)] [],none⟩,⟨none,.store 3 (.s 4) (.s 103),none⟩,⟨none,.store 1 (.s 5) (.c (.int .i64 6)),none⟩]) (.ret)) (.skip))) (.reg false false [⟨some 104,.load none (.s 12),none⟩,⟨some 105,.mov (.s 15),none⟩,⟨some 106,.mov (.s 18),none⟩,⟨some 107,.conv .i64 (.s 106),none⟩,⟨some 108,.idxS 1 (.s 104) (.s 105),none⟩,⟨none,.store 1 (.s 108) (.s 107),none⟩])))) rfl T4 (fun i a=>zbS r4 r12 (u34.drop i) a=some o4∧a.length=(Int.toNat r12.1)) (fun x L1=>match x with | .normal=>∃ a,o4=.go a∧a.length=(Int.toNat r12.1)∧L1=T4 a | .ret=>L1.length=9∧zd8 (9+1) L1∧(zcV [.cell 4 (some 3),.cell 5 none] ((.tup [(.agg [(fzE true (eI .i64) r.1.vars),(fzE true (eI .i64) r.1.cards),(fzE true (eI .i64) r.1.w)]),(dI r.2)]))) .ret ⟨113,[(4,(.ptr 2 0)),(5,(.ptr 3 0)),(8,(.ptr 5 0)),(9,(fzE true (eI .i64) r10.1)),(10,(fzE true (eI .i64) r10.2)),(12,(.ptr 7 0)),(78,(.clo 120 [] [(.fptr false ((eL (eI .i64)).c false r32.1)),(.fptr false ((eL (eI .i64)).c false r32.2))]))],L1 ++ [.lost]⟩| _=>False) l6 ?_ (qaU _) ?_ ?_ ?_ (fun d L1 hx=>hx.elim) ?_ ?_ ?_ ?_ ?_ ?_
  ·intro a; rw[hT4]; rfl
  ·exact⟨(qac rfl),(qac rfl),(qac rfl),qcb,qcb,(qac rfl),⟨qcb,⟨qcb,qcb,qcb⟩⟩,qcb⟩
  ·intro a; rw[hT4]; exact⟨⟨qcb,qcb,qcb,qcb⟩,⟨qcb,qcb,qcb,qcb⟩,⟨qcb,qcb,qcb,qcb⟩,⟨qcb,qcb⟩,⟨qcb,qcb,qcb,qcb,qcb⟩,⟨qcb,qcb,qcb,qcb,qcb⟩,(zcj (eI .i64) _ _ _),⟨(qac rfl),qcb⟩,qcb,qcb⟩
  ·intro x L1 hx;cases x with
   | normal=>obtain⟨a,_,_,rfl⟩:=hx; exact⟨by rw[hT4]; rfl,by rw[hT4]; exact⟨⟨qcb,qcb,qcb,qcb⟩,⟨qcb,qcb,qcb,qcb⟩,⟨qcb,qcb,qcb,qcb⟩,⟨qcb,qcb⟩,⟨qcb,qcb,qcb,qcb,qcb⟩,⟨qcb,qcb,qcb,qcb,qcb⟩,(zcj (eI .i64) _ _ _),⟨(qac rfl),qcb⟩,qcb,qcb⟩⟩
   | ret=>exact⟨hx.1,hx.2.1⟩
   | exit id=>exact hx.elim
   | panic d=>exact hx.elim
  ·exact⟨j4,el6⟩
  ·rintro i l6' y36 args G lpF hy ⟨hi4,el6'⟩ ⟨rfl,rfl⟩ hkin;rw[zew hy]at hi4;simp only[zbS]at hi4;refine⟨_,_,rfl,rfl,?_⟩;rw[congrFun hT4 l6'];refine zac ?_;obtain⟨x37,g38,hi4⟩:=bind_some hi4;obtain⟨x39,g40,hi4⟩:=bind_some hi4;obtain⟨r41,g42,hi4⟩:=bind_some hi4;try simp only[rnA,Nat.reduceEqDiff,Nat.reduceLT,Nat.reduceAdd,el6',zbq g38,(show y36.1<(((Int.toNat r12.1):Nat):Int)from el6' ▸ zbr g38),zaQ g38 ((eI .i64).c true),zaB (n:=1) (e:=(eI .i64)) rfl g40]
   refine EvL.fn (ziI g42) rfl rfl (.cons (.lit _) (.cons (.lit _) .nil)) ?_;try simp only[rnA,Nat.reduceEqDiff,Nat.reduceLT]
   obtain⟨o5,j5,hi4⟩:=bind_some hi4;obtain⟨T5,hT5⟩:=mkT fun a:Bool=>⟨113,[(4,(.ptr 2 0)),(5,(.ptr 3 0)),(12,(.ptr 7 0)),(15,(dI y36.1)),(18,(dU r41.2)),(102,(dB a))],[.cells [(fzE false (eI .i64) p0.vars),(fzE false (eI .i64) p0.cards),(fzE false (eI .i64) p0.w)],.cells [(fzE false (eI .i64) p1.vars),(fzE false (eI .i64) p1.cards),(fzE false (eI .i64) p1.w)],.cells [zaL,zaL,zaL],.cells [(dI 0)],.cells [(fzE false (eI .i64) r1.1.factor.vars),(fzE false (eI .i64) r1.1.factor.cards),(fzE false (eI .i64) r1.1.factor.w),(fzE false (eI .i64) r1.1.steps)],.cells [(fzE false (eI .i64) r4.1.factor.vars),(fzE false (eI .i64) r4.1.factor.cards),(fzE false (eI .i64) r4.1.factor.w),(fzE false (eI .i64) r4.1.steps)],.els 1 (l6'.map ((eI .i64).c true)),.cells [(.sl 6 0 1 (Int.toNat r12.1) (some (Int.toNat r12.1)) (Int.toNat r12.1))],.lost,lpF,.els 1 (y36.2.2.map ((eI .i64).c true))]⟩
   refine EvL.jn T5 (fun a=>a=o5) ?_ ?_
   ·refine zac ?_;try simp only[rnA,Nat.reduceEqDiff,Nat.reduceLT]
    cases c43:(r41.1 == 0)
    ·rw[c43,cond_false]at j5;try simp only[rnA,Nat.reduceEqDiff,Nat.reduceLT]
     replace j5:=qab j5; subst j5;exact⟨_,rfl,by rw[hT5]; exact zbl.mK (k0:=11) [.k,.k,.k,.k,.k,.k,.k,.k,.k,.k,.k] rfl rfl (msq (msq (msq (msq (msq (msq trivial)))))) ⟨MB.cs ⟨qcb,qcb,qcb,qcb⟩,⟨MB.cs ⟨qcb,qcb,qcb,qcb⟩,⟨MB.cs ⟨qcb,qcb,qcb,qcb⟩,⟨MB.cs ⟨qcb,qcb⟩,⟨MB.cs ⟨qcb,qcb,qcb,qcb,qcb⟩,⟨MB.cs ⟨qcb,qcb,qcb,qcb,qcb⟩,⟨MB.es (eI .i64) true l6',⟨MB.cs ⟨rfl,qcb⟩,⟨MB.same trivial,⟨.same (hkin _ (by decide)),⟨MB.es (eI .i64) true y36.2.2,qcb⟩⟩⟩⟩⟩⟩⟩⟩⟩⟩⟩⟩
    rw[c43,cond_true]at j5;try simp only[rnA,Nat.reduceEqDiff,Nat.reduceLT]
    replace j5:=qab j5; subst j5;exact⟨_,rfl,by rw[hT5]; exact zbl.mK (k0:=11) [.k,.k,.k,.k,.k,.k,.k,.k,.k,.k,.k] rfl rfl (msq (msq (msq (msq (msq (msq trivial)))))) ⟨MB.cs ⟨qcb,qcb,qcb,qcb⟩,⟨MB.cs ⟨qcb,qcb,qcb,qcb⟩,⟨MB.cs ⟨qcb,qcb,qcb,qcb⟩,⟨MB.cs ⟨qcb,qcb⟩,⟨MB.cs ⟨qcb,qcb,qcb,qcb,qcb⟩,⟨MB.cs ⟨qcb,qcb,qcb,qcb,qcb⟩,⟨MB.es (eI .i64) true l6',⟨MB.cs ⟨rfl,qcb⟩,⟨MB.same trivial,⟨.same (hkin _ (by decide)),⟨MB.es (eI .i64) true y36.2.2,qcb⟩⟩⟩⟩⟩⟩⟩⟩⟩⟩⟩⟩
   rintro v102 rfl;rw[congrFun hT5 v102];refine zac ?_;try simp only[rnA,Nat.reduceEqDiff]
   cases c44:v102
   ·rw[c44,cond_false]at hi4;obtain⟨x45,g46,hi4⟩:=bind_some hi4;obtain⟨y47,g48,hi4⟩:=bind_some hi4;try simp only[rnA,Nat.reduceEqDiff,Nat.reduceLT,Nat.reduceLeDiff,el6',zbq g46,(show y36.1<(((Int.toNat r12.1):Nat):Int)from el6' ▸ zbr g46),zaQ g46 ((eI .i64).c true),(show(l6'.map ((eI .i64).c true)).set y36.1.toNat [(dI (w64 r41.2))]=y47.map ((eI .i64).c true)from zbE g48 ((eI .i64).c true))]
    exact⟨T4 y47,by rw[hT4]; rfl,by rw[hT4]; exact zbl.mK [.k,.k,.k,.k,.k,.k,.k,.k,.k,.k,.k] rfl rfl qcb ⟨MB.cs ⟨qcb,qcb,qcb,qcb⟩,⟨MB.cs ⟨qcb,qcb,qcb,qcb⟩,⟨MB.cs ⟨qcb,qcb,qcb,qcb⟩,⟨MB.cs ⟨qcb,qcb⟩,⟨MB.cs ⟨qcb,qcb,qcb,qcb,qcb⟩,⟨MB.cs ⟨qcb,qcb,qcb,qcb,qcb⟩,⟨MB.es (eI .i64) true y47,⟨MB.cs ⟨rfl,qcb⟩,⟨MB.same trivial,⟨.same (hkin _ (by decide)),⟨MB.same (zcT _ _ _ _),qcb⟩⟩⟩⟩⟩⟩⟩⟩⟩⟩⟩,y47,⟨hi4,(zbd g48).trans el6'⟩,rfl⟩
   rw[c44,cond_true]at hi4;try simp only[rnA,Nat.reduceEqDiff,Nat.reduceLT,Nat.reduceAdd,Nat.reduceLeDiff]
   replace hi4:=qab hi4; subst hi4;dsimp only at h;replace h:=qab h; subst h;exact⟨[.cells [(fzE false (eI .i64) p0.vars),(fzE false (eI .i64) p0.cards),(fzE false (eI .i64) p0.w)],.cells [(fzE false (eI .i64) p1.vars),(fzE false (eI .i64) p1.cards),(fzE false (eI .i64) p1.w)],.cells [zaL,zaL,zaL],.cells [(dI 6)],.cells [(fzE false (eI .i64) r1.1.factor.vars),(fzE false (eI .i64) r1.1.factor.cards),(fzE false (eI .i64) r1.1.factor.w),(fzE false (eI .i64) r1.1.steps)],.cells [(fzE false (eI .i64) r4.1.factor.vars),(fzE false (eI .i64) r4.1.factor.cards),(fzE false (eI .i64) r4.1.factor.w),(fzE false (eI .i64) r4.1.steps)],.els 1 (l6'.map ((eI .i64).c true)),.cells [(.sl 6 0 1 (Int.toNat r12.1) (some (Int.toNat r12.1)) (Int.toNat r12.1))],.lost],rfl,zbl.mK [.k,.k,.k,.k,.k,.k,.k,.k,.k,.k,.k] rfl rfl qcb ⟨MB.cs ⟨qcb,qcb,qcb,qcb⟩,⟨MB.cs ⟨qcb,qcb,qcb,qcb⟩,⟨MB.cs ⟨qcb,qcb,qcb,qcb⟩,⟨MB.cs ⟨qcb,qcb⟩,⟨MB.cs ⟨qcb,qcb,qcb,qcb,qcb⟩,⟨MB.cs ⟨qcb,qcb,qcb,qcb,qcb⟩,⟨MB.es (eI .i64) true l6',⟨MB.cs ⟨rfl,qcb⟩,⟨MB.same trivial,⟨.same (hkin _ (by decide)),⟨MB.same (zcT _ _ _ _),qcb⟩⟩⟩⟩⟩⟩⟩⟩⟩⟩⟩,rfl,⟨⟨qcb,qcb,qcb,qcb⟩,⟨qcb,qcb,qcb,qcb⟩,⟨qcb,qcb,qcb,qcb⟩,⟨qcb,qcb⟩,⟨qcb,qcb,qcb,qcb,qcb⟩,⟨qcb,qcb,qcb,qcb,qcb⟩,(zcj (eI .i64) _ _ _),⟨(qac rfl),qcb⟩,qcb,qcb⟩,zcV.ret rfl (Snp.zdn (.cons (.zaG (.cons (zai (eI .i64)) (.cons (zai (eI .i64)) (.cons (zai (eI .i64)) .nil)))) (.cons (.lit _) .nil)))⟩
  ·rintro l6' ⟨hi4,el6'⟩;rw[qaY]at hi4;simp only[zbS]at hi4;exact⟨l6',(qab hi4).symm,el6',rfl⟩
  ·rintro _ ⟨l6',oeq,el6',rfl⟩;have oeq2:=oeq.symm;subst oeq2;dsimp only at h;rw[congrFun hT4 l6'];refine zac ?_;try simp only[rnA,Nat.reduceEqDiff,Nat.reduceLT,Nat.reduceAdd,Nat.reduceLeDiff]
   replace h:=qab h; subst h;exact zcV.ret rfl (Snp.zdn (.cons (.zaG (.cons (zaa _ _ (fun _=>rfl)) (.cons (zaa _ _ (fun _=>rfl)) (.cons (zbh (e:=(eI .i64)) (t:=true) rfl (.inl rfl) (el6').symm (el6').symm (fun k h=>by cases h; exact qaf _) (fun _=>rfl)) .nil)))) (.cons (.lit _) .nil)))
  ·intro id L1 hx; exact hx.elim
  intro L1 hx; exact hx.2.2
 ·intro id L1 hx; exact hx.elim
 intro L1 hx; exact hx.2.2
def zcJ(p0:S_api_Factor)(p1:Int):Option (S_api_Factor×Int):=
(zaE p0).bind fun r1=>
bif (r1.2 == 0)then(
(zaj r1.1 p1).bind fun r4=>
bif (decide (r4<0))then(
some ((S_api_Factor.mk [] [] []),4))
else(
(zda 8 r1.1.factor.vars).bind fun y7=>
(zoE y7 r4 (w64 (r4+1))).bind fun y9=>
(zaT r1.1 y9).bind fun r11=>
some (r11.1,r11.2)))
else(
some ((S_api_Factor.mk [] [] []),r1.2))
def zdI:C:=
 .seq (rg [oW 3 0,
 oW 5 2,
 ⟨some 6,.alloc [(.slice none 0 0),(.slice none 0 0),(.slice none 0 0)],none⟩,
 oK 7 0])
 (.seq (rg [oN 12 3 3,
 oU 13 77 12,
 oM 11 13,
 oX 14 11 0,
 oX 15 11 1,
 ⟨some 8,.alloc [(.slice none 0 0),(.slice none 0 0),(.slice none 0 0),(.slice none 0 0)],none⟩,
 oS 4 8 14,
 oM 9 15])
 (.seq (.seq (rg [oM 16 9,
 oD 17 .neq 16 0])
 (.cond (.s 17) (.seq (rg [⟨some 18,.build [(.slice none 0 0),(.slice none 0 0),(.slice none 0 0)] [],none⟩,
 oM 19 9,
 oS 3 6 18,
 oM 7 19])
 (.ret))
 (.skip)))
 (.seq (rg [oN 20 4 8,
 oM 21 1,
 oV 22 90 20 21,
 oM 10 22])
 (.seq (.seq (rg [oM 23 10,
 oD 24 .lss 23 0])
 (.cond (.s 24) (.seq (rg [⟨some 25,.build [(.slice none 0 0),(.slice none 0 0),(.slice none 0 0)] [],none⟩,
 oS 3 6 25,
 oK 7 4])
 (.ret))
 (.skip)))
 (.seq (.reg true false [oN 26 4 8,
 oF 27 0 8,
 oF 28 0 27,
 oL 29 28,
 oM 31 10,
 oM 32 10,
 oD 33 .add 32 1,
 oN 35 1 5,
 oU 30 25 29,
 ⟨none,.avo [(.s 8),(.s 5)] (.s 30),none⟩,
 ⟨some 34,.call 91 [(.s 30),(.s 31),(.s 33)],none⟩,
 ⟨some 36,.call 78 [(.s 26),(.s 34),(.s 35)],none⟩,
 oX 37 36 0,
 oX 38 36 1,
 oS 3 6 37,
 oM 7 38])
 (.ret))))))
theorem zeT:zgs mC 88=some (39,zdI,[.cell 6 (some 3),.tmp 7],false):=zbj (by kernel_rfl)
theorem ze5{p0:S_api_Factor}{p1:Int}{r:(S_api_Factor×Int)}(h:zcJ p0 p1=some r):Lx.FnA mC 88 [(.agg [(fzE false (eI .i64) p0.vars),(fzE false (eI .i64) p0.cards),(fzE false (eI .i64) p0.w)]),(dI p1),(.agg [(.clo 79 [] [])])] (.tup [(.agg [(fzE false (eI .i64) r.1.vars),(fzE false (eI .i64) r.1.cards),(fzE false (eI .i64) r.1.w)]),(dI r.2)]):=by
 refine FnA.of zeT (zbc rfl) (qac rfl) ?_;unfold zcJ at h;simp only[zdI,zkx];refine zac ?_;obtain⟨r1,g2,h⟩:=bind_some h;try simp only[rnA,Nat.reduceEqDiff,Nat.reduceLT,Nat.reduceAdd,Nat.reduceLeDiff,reduceCtorEq]
 refine EvL.fnS (zaX g2) rfl rfl (.cons (Mzs.agg (.cons (zad _ _ (fun h=>by cases h<;>contradiction)) (.cons (zad _ _ (fun h=>by cases h<;>contradiction)) (.cons (zad _ _ (fun h=>by cases h<;>contradiction)) .nil)))) .nil) ⟨⟨(zab _ _),(zab _ _),(zab _ _),qcb⟩,qcb⟩ ⟨⟨(zab _ _),(zab _ _),(zab _ _),(zab _ _),qcb⟩,qcb,qcb⟩ ?_;try simp only[rnA,Nat.reduceEqDiff,Nat.reduceLT,Nat.reduceAdd,Nat.reduceLeDiff,reduceCtorEq]
 cases c3:(r1.2 == 0)
 ·rw[c3,cond_false]at h;try simp only[rnA,Nat.reduceEqDiff,Nat.reduceLT,Nat.reduceAdd,Nat.reduceLeDiff,reduceCtorEq]
  replace h:=qab h; subst h;exact zeV.ret rfl (Snp.zdn (.cons (.zaG (.cons (zai (eI .i64)) (.cons (zai (eI .i64)) (.cons (zai (eI .i64)) .nil)))) (.cons (.lit _) .nil)))
 rw[c3,cond_true]at h;obtain⟨r4,g5,h⟩:=bind_some h;try simp only[rnA,Nat.reduceEqDiff,Nat.reduceLT,Nat.reduceAdd,Nat.reduceLeDiff,reduceCtorEq]
 refine EvL.fn (zam g5) rfl rfl (.cons (.zaG (.cons (zaa _ _ (fun h=>nomatch h)) (.cons (zaa _ _ (fun h=>nomatch h)) (.cons (zaa _ _ (fun h=>nomatch h)) (.cons (zaa _ _ (fun h=>nomatch h)) .nil))))) (.cons (.lit _) .nil)) ?_;try simp only[rnA,Nat.reduceEqDiff,Nat.reduceLT,reduceCtorEq]
 cases c6:(decide (r4<0))
 ·rw[c6,cond_false]at h;obtain⟨y7,g8,h⟩:=bind_some h;try simp only[rnA,Nat.reduceEqDiff,Nat.reduceLT,Nat.reduceAdd,Nat.reduceLeDiff,reduceCtorEq]
  refine EvL.clone (t:=false) (zs:=r1.1.factor.vars) g8 rfl rfl ?_;obtain⟨y9,g10,h⟩:=bind_some h;try simp only[rnA,Nat.reduceEqDiff,Nat.reduceLT,Nat.reduceAdd,Nat.reduceBEq,reduceCtorEq]
  refine EvL.delete (zs:=y7) (t:=true) g10 rfl rfl rfl rfl rfl rfl ?_;refine EvL.zcY (S':=⟨39,[(6,(.ptr 2 0)),(26,(.agg [(fzE false (eI .i64) r1.1.factor.vars),(fzE false (eI .i64) r1.1.factor.cards),(fzE false (eI .i64) r1.1.factor.w),(fzE false (eI .i64) r1.1.steps)])),(34,(fzE true (eI .i64) y9)),(35,(.agg [(.clo 79 [] [])]))],[.gone,.gone,.cells [zaL,zaL,zaL]]⟩) (zbl.m0 [.d,.d,.k,.d,.f] rfl (msq (ms rfl ⟨qcb,qcb,qcb,qcb,qcb⟩ (mf rfl (zg4 (xs:=y7) (ys:=y9) (t:=true) (ziP g10) rfl rfl rfl (fun _=>rfl)) (ms rfl ⟨⟨qcb,qcb⟩,qcb⟩ trivial)))) ⟨rfl,⟨rfl,⟨MB.cs ⟨qcb,qcb,qcb,qcb⟩,qcb⟩⟩⟩) (zac ?_);obtain⟨r11,g12,h⟩:=bind_some h;try simp only[rnA]
  refine EvL.fnS (zbB g12) rfl rfl (.cons (Mzs.agg (.cons (zad _ _ (fun h=>by cases h<;>contradiction)) (.cons (zad _ _ (fun h=>by cases h<;>contradiction)) (.cons (zad _ _ (fun h=>by cases h<;>contradiction)) (.cons (zad _ _ (fun h=>by cases h<;>contradiction)) .nil))))) (.cons (zad _ _ (fun h=>by cases h<;>contradiction)) (.cons (Mzs.agg (.cons zfN .nil)) .nil))) ⟨⟨(zab _ _),(zab _ _),(zab _ _),(zab _ _),qcb⟩,(zab _ _),⟨⟨qcb,qcb⟩,qcb⟩,qcb⟩ ⟨⟨(zab _ _),(zab _ _),(zab _ _),qcb⟩,qcb,qcb⟩ ?_;try simp only[rnA,Nat.reduceEqDiff,Nat.reduceLT,Nat.reduceAdd,Nat.reduceLeDiff]
  replace h:=qab h; subst h;exact zeV.ret rfl (Snp.zdn (.cons (.zaG (.cons (zaa _ _ (fun h=>nomatch h)) (.cons (zaa _ _ (fun h=>nomatch h)) (.cons (zaa _ _ (fun h=>nomatch h)) .nil)))) (.cons (.lit _) .nil)))
 rw[c6,cond_true]at h;try simp only[rnA,Nat.reduceEqDiff,Nat.reduceLT,Nat.reduceAdd,Nat.reduceLeDiff,reduceCtorEq]
 replace h:=qab h; subst h;exact zeV.ret rfl (Snp.zdn (.cons (.zaG (.cons (zai (eI .i64)) (.cons (zai (eI .i64)) (.cons (zai (eI .i64)) .nil)))) (.cons (.lit _) .nil)))
def zcc(p0:S_api_Factor)(p1:Int):Option (S_api_Factor×Int):=
(zcJ p0 p1).bind fun r1=>
some (r1.1,r1.2)
theorem zc9{p0:S_api_Factor}{p1:Int}{r:(S_api_Factor×Int)}(h:zcc p0 p1=some r):Lx.FnA mC 33 [(.agg [(fzE false (eI .i64) p0.vars),(fzE false (eI .i64) p0.cards),(fzE false (eI .i64) p0.w)]),(dI p1)] (.tup [(.agg [(fzE false (eI .i64) r.1.vars),(fzE false (eI .i64) r.1.cards),(fzE false (eI .i64) r.1.w)]),(dI r.2)]):=by
 refine zr7 (by conv=>lhs; cbv) ?_;unfold zcc at h;refine zac ?_;obtain⟨r1,g2,h⟩:=bind_some h;try simp only[rnA,Nat.reduceEqDiff,reduceIte,Nat.reduceLT,Nat.reduceAdd,Nat.reduceLeDiff,Nat.reduceMul,Nat.reduceSub,Int.reduceLE,Int.reduceLT,Int.reduceBEq,Nat.reduceBEq,reduceCtorEq,zae,zcC]
 refine EvL.fnS (ze5 g2) rfl rfl (.cons (Mzs.agg (.cons (zad _ _ (fun h=>by cases h<;>contradiction)) (.cons (zad _ _ (fun h=>by cases h<;>contradiction)) (.cons (zad _ _ (fun h=>by cases h<;>contradiction)) .nil)))) (.cons (.lit _) (.cons (Mzs.agg (.cons zfN .nil)) .nil))) ⟨⟨(zab _ _),(zab _ _),(zab _ _),qcb⟩,qcb,⟨⟨qcb,qcb⟩,qcb⟩,qcb⟩ ⟨⟨(zab _ _),(zab _ _),(zab _ _),qcb⟩,qcb,qcb⟩ ?_;try simp only[rnA,Nat.reduceEqDiff,reduceIte,Nat.reduceLT,Nat.reduceAdd,Nat.reduceLeDiff,Nat.reduceMul,Nat.reduceSub,Int.reduceLE,Int.reduceLT,Int.reduceBEq,Nat.reduceBEq,reduceCtorEq,zae]
 replace h:=qab h; subst h;exact zeV.ret rfl (Snp.zdn (.cons (.zaG (.cons (zaa _ _ (fun h=>nomatch h)) (.cons (zaa _ _ (fun h=>nomatch h)) (.cons (zaa _ _ (fun h=>nomatch h)) .nil)))) (.cons (.lit _) .nil)))
def zcN(p0:Int)(p1:Int):Option (Int×Bool):=
some ((zs0 p0 p1),true)
theorem zfd{p0:Int}{p1:Int}{r:(Int×Bool)}(h:zcN p0 p1=some r):Lx.Fn mC 89 [(dI p0),(dI p1)] (.tup [(dI r.1),(dB r.2)]):=by
 refine fnO (by conv=>lhs; cbv) ?_;unfold zcN at h;refine zac ?_;try simp only[rnA,Nat.reduceEqDiff,reduceIte,Nat.reduceLT,Nat.reduceAdd,Nat.reduceLeDiff,Nat.reduceMul,Nat.reduceSub,Int.reduceLE,Int.reduceLT,Int.reduceBEq,Nat.reduceBEq,reduceCtorEq]
 replace h:=qab h; subst h;exact zcV.ret rfl (Snp.zdn (.cons (.lit _) (.cons (.lit _) .nil)))
def za6(p1:(List Int))(p0:S_factor_table):Nat→Int→Int→(List Int)→Option (Int×(List Int))
 | 0,_,_,_=>none
 | n+1,v9,v24,l3=>(
bif (decide (v24<(p1.length:Int)))then(
(zbN p1 v24).bind fun x4=>
(zaj p0 x4).bind fun r6=>
(zbN p0.factor.cards r6).bind fun x8=>
(zbN l3 v24).bind fun x10=>
(zgc l3 v24 x8).bind fun y12=>
za6 p1 p0 n (w64 (v9 * x8)) (w64 (v24+1)) y12)
else(
some (v9,l3)))
def za9(p1:(List Int))(p0:S_factor_table)(l3:(List Int)):Nat→Int→Int→(List Int)→Option (List Int)
 | 0,_,_,_=>none
 | n+1,v14,v15,l6=>(
bif (decide (0≤v15))then(
(zbN p1 v15).bind fun x19=>
(zaj p0 x19).bind fun r21=>
(zbN l6 r21).bind fun x23=>
(zgc l6 r21 v14).bind fun y25=>
(zbN l3 v15).bind fun x27=>
za9 p1 p0 l3 n (w64 (v14 * x27)) (w64 (v15 - 1)) y25)
else(
some l6))
def zaP(p0:S_factor_table)(v9:Int):List (Int×Int×(List Int))→(List Int)→Option (Out3 (List Int) (List Int) Empty)
 | [],l4=>some (.go l4)
 | y33 :: ys,l4=>(
(zbN l4 y33.2.1).bind fun x34=>
(zbN p0.factor.w y33.1).bind fun x36=>
(zcN x34 x36).bind fun r38=>
(zgc l4 y33.2.1 r38.1).bind fun y40=>
bif r38.2 then(
zaP p0 v9 ys y40)
else(
some (.brk y40)))
def zbL(p0:S_factor_table)(p1:(List Int)):Option (S_api_Factor×Int):=
(zdD 8 (p1.length:Int) 0).bind fun y1=>
((za6 p1 p0 ((p1.length:Int) - 0+2:Int).toNat 1 0 y1:Option ((Int×(List Int))))).bind fun o=>match o with
|(v9,l3)=>(
(zdD 8 v9 0).bind fun y14=>
(zdD 8 (p0.factor.vars.length:Int) 0).bind fun y16=>
((za9 p1 p0 l3 ((w64 ((p1.length:Int) - 1)) - 0+2:Int).toNat 1 (w64 ((p1.length:Int) - 1)) y16:Option (List Int))).bind fun l6=>
(za1 p0.factor.cards l6).bind fun r29=>
(((zoy r29.1 r29.2).bind fun u31=>
((zaP p0 v9 u31 y14:Option (Out3 (List Int) (List Int) Empty))).bind fun o=>match o with
| .go l4=>(
some (true,l4))
| .brk l4=>(
some (false,l4))
| .ret r=>nomatch r:Option ((Bool×(List Int))))).bind fun o=>match o with
|(b7_0,l4)=>(
bif b7_0 then(
some ((S_api_Factor.mk p1 l3 l4),0))
else(
some ((S_api_Factor.mk [] [] []),6))))
def zcv:C:=
 .seq (rg [oW 3 0,
 oW 5 2,
 ⟨some 6,.alloc [(.slice none 0 0),(.slice none 0 0),(.slice none 0 0)],none⟩,
 oK 7 0])
 (.scope (.seq (rg [oM 19 1,
 oE 20 19,
 ⟨some 21,.mk 1 8 [(.int .i64 0)] (.s 20) (.s 20),none⟩,
 oM 8 21,
 oK 9 1])
 (.seq (.seq (rg [oM 22 1,
 oE 23 22,
 oK 24 0])
 (.scope (.block 0 (.loop (.seq (rg [oB 25 .lss 24 23])
 (.seq (.cond (.s 25) (.skip)
 (.exit 0))
 (.seq (.block 1 (.seq (rg [oM 26 24,
 oI 27 1 22 24,
 oL 28 27,
 oM 10 26,
 oM 11 28])
 (.seq (.reg true true [oM 29 8,
 oM 30 10,
 oF 31 0 3,
 oF 32 1 31,
 oL 33 32,
 oN 34 4 3,
 oM 35 11,
 oV 36 90 34 35,
 oI 37 1 33 36,
 oL 38 37,
 oI 39 1 29 30,
 oS 1 39 38])
 (rg [oM 40 9,
 oM 41 8,
 oM 42 10,
 oI 43 1 41 42,
 oL 44 43,
 oB 45 .mul 40 44,
 oM 9 45]))))
 (rg [oD 46 .add 24 1,
 oM 24 46]))))))))
 (.seq (.reg true false [oM 47 9,
 oF 49 0 3,
 oF 50 0 49,
 oL 51 50,
 oE 52 51,
 ⟨some 48,.mk 1 8 [(.int .i64 0)] (.s 47) (.s 47),none⟩,
 ⟨some 12,.alloc [(.slice none 0 0)],none⟩,
 ⟨none,.avo [(.s 50)] (.s 12),none⟩,
 oS 1 12 48,
 ⟨some 53,.mk 1 8 [(.int .i64 0)] (.s 52) (.s 52),none⟩,
 oM 13 53,
 oK 14 1])
 (.seq (.seq (rg [oM 54 1,
 oE 55 54,
 oD 56 .sub 55 1,
 oM 15 56])
 (.scope (.block 2 (.loop (.seq (.seq (rg [oM 57 15,
 oD 58 .geq 57 0])
 (.cond (.s 58) (.skip)
 (.exit 2)))
 (.seq (.block 3 (.seq (.reg true false [oM 61 13,
 oN 62 4 3,
 oM 63 1,
 oM 64 15,
 oI 65 1 63 64,
 oL 66 65,
 oM 68 14,
 oV 67 90 62 66,
 oI 69 1 61 67,
 oS 1 69 68])
 (rg [oM 70 14,
 oM 71 8,
 oM 72 15,
 oI 73 1 71 72,
 oL 74 73,
 oB 75 .mul 70 74,
 oM 14 75])))
 (rg [oM 59 15,
 oD 60 .sub 59 1,
 oM 15 60])))))))
 (.seq (rg [⟨some 16,.alloc [(.bool false)],none⟩,
 ⟨none,.store 1 (.s 16) (.c (.bool true)),none⟩])
 (.seq (.label 0)
 (.seq (.seq (rg [oF 76 0 3,
 oF 77 1 76,
 oL 78 77,
 oM 79 13,
 oV 80 84 78 79])
 (.scope (.block 4 (.zdB (.s 80) [81,82] (.seq (rg [oM 17 81])
 (rg [oM 18 82]))
 (.block 5 (.seq (.reg true true [oL 84 12,
 oM 85 18,
 oF 86 0 5,
 oL 87 86,
 oL 88 12,
 oM 89 18,
 oI 90 1 88 89,
 oL 91 90,
 oF 92 0 3,
 oF 93 2 92,
 oL 94 93,
 oM 95 17,
 oI 96 1 94 95,
 oL 97 96,
 ⟨some 98,.za2 (.s 87) [(.s 91),(.s 97)],none⟩,
 oM 83 98,
 oX 99 83 0,
 oX 100 83 1,
 oI 101 1 84 85,
 oS 1 101 99,
 oS 1 16 100])
 (.block 6 (.seq (rg [oL 103 16,
 ⟨some 104,.un .not (.s 103),none⟩,
 oM 102 104])
 (.cond (.s 102) (.exit 4)
 (.skip))))))))))
 (.seq (.seq (rg [oL 105 16,
 ⟨some 106,.un .not (.s 105),none⟩])
 (.cond (.s 106) (.seq (rg [⟨some 107,.build [(.slice none 0 0),(.slice none 0 0),(.slice none 0 0)] [],none⟩,
 oS 3 6 107,
 oK 7 6])
 (.ret))
 (.skip)))
 (.seq (rg [oM 108 1,
 oM 109 8,
 oL 110 12,
 ⟨some 111,.build [(.slice none 0 0),(.slice none 0 0),(.slice none 0 0)] [(0,1,(.s 108)),(1,1,(.s 109)),(2,1,(.s 110))],none⟩,
 oS 3 6 111,
 oK 7 0])
 (.ret)))))))))))
theorem zdu:zgs mC 78=some (112,zcv,[.cell 6 (some 3),.tmp 7],false):=zbj (by kernel_rfl)
theorem zdE{p0:S_factor_table}{p1:(List Int)}{r:(S_api_Factor×Int)}(h:zbL p0 p1=some r):Lx.FnA mC 78 [(.agg [(fzE false (eI .i64) p0.factor.vars),(fzE false (eI .i64) p0.factor.cards),(fzE false (eI .i64) p0.factor.w),(fzE false (eI .i64) p0.steps)]),(fzE false (eI .i64) p1),(.agg [(.clo 89 [] [])])] (.tup [(.agg [(fzE false (eI .i64) r.1.vars),(fzE false (eI .i64) r.1.cards),(fzE false (eI .i64) r.1.w)]),(dI r.2)]):=by
 refine FnA.of zdu (zbc rfl) (qac rfl) ?_;unfold zbL at h;simp only[zcv,zkx];refine zac ?_;try simp only[rnA,Nat.reduceEqDiff,Nat.reduceLT,Nat.reduceAdd,reduceCtorEq]
 refine EvL.scope (zac ?_);obtain⟨y1,g2,h⟩:=bind_some h;try simp only[rnA,Nat.reduceEqDiff,Nat.reduceLT,Nat.reduceAdd,reduceCtorEq,zbk,(zau g2).1.1,(zau g2).1.2,qbn,(show List.replicate (Int.toNat (p1.length:Int)) [(dI 0)]=y1.map ((eI .i64).c true)from zbw g2 ((eI .i64).c true))]
 obtain⟨o8,j8,h⟩:=bind_some h;obtain⟨T8,hT8⟩:=mkT fun a:(Int×(List Int))=>⟨112,[(1,(fzE false (eI .i64) p1)),(3,(.ptr 0 0)),(5,(.ptr 1 0)),(6,(.ptr 2 0)),(8,(.sl 3 0 1 (Int.toNat (p1.length:Int)) (some (Int.toNat (p1.length:Int))) (Int.toNat (p1.length:Int)))),(9,(dI a.1))],[.cells [(fzE false (eI .i64) p0.factor.vars),(fzE false (eI .i64) p0.factor.cards),(fzE false (eI .i64) p0.factor.w),(fzE false (eI .i64) p0.steps)],.cells [(.clo 89 [] [])],.cells [zaL,zaL,zaL],.els 1 (a.2.map ((eI .i64).c true))]⟩
 refine EvL.jn T8 (fun a=>a=o8∧a.2.length=(Int.toNat (p1.length:Int))) ?_ ?_
 ·refine zac ?_;simp only[rnA];obtain⟨T9,hT9⟩:=mkT fun a:(Int×Int×(List Int))=>⟨112,[(1,(fzE false (eI .i64) p1)),(3,(.ptr 0 0)),(5,(.ptr 1 0)),(6,(.ptr 2 0)),(8,(.sl 3 0 1 (Int.toNat (p1.length:Int)) (some (Int.toNat (p1.length:Int))) (Int.toNat (p1.length:Int)))),(9,(dI a.1)),(22,(fzE false (eI .i64) p1)),(23,(dI (p1.length:Int))),(24,(dI a.2.1))],[.cells [(fzE false (eI .i64) p0.factor.vars),(fzE false (eI .i64) p0.factor.cards),(fzE false (eI .i64) p0.factor.w),(fzE false (eI .i64) p0.steps)],.cells [(.clo 89 [] [])],.cells [zaL,zaL,zaL],.els 1 (a.2.2.map ((eI .i64).c true))]⟩
  refine EvL.rounds (α:=(Int×Int×(List Int))) T9 (fun n a=>za6 p1 p0 n a.1 a.2.1 a.2.2=some o8∧a.2.2.length=(Int.toNat (p1.length:Int))) ((p1.length:Int) - 0+2:Int).toNat (1,0,y1) (by rw[hT9]; exact wm0 [.k,.k,.k,.k] ⟨MB.cs ⟨qcb,qcb,qcb,qcb,qcb⟩,⟨MB.cs ⟨⟨qcb,qcb⟩,qcb⟩,⟨MB.cs ⟨qcb,qcb,qcb,qcb⟩,⟨MB.es (eI .i64) true y1,qcb⟩⟩⟩⟩) ⟨j8,zaC g2⟩ (fun _ h=>nomatch (show(none:Option (Int×(List Int)))=some o8 from h.1)) ?_;rintro n ⟨v9,v24,l3⟩ ⟨j8,el3⟩;simp only[za6]at j8;rw[congrFun hT9 (v9,v24,l3)];refine zac ?_;try simp only[rnA,Nat.reduceEqDiff,Nat.reduceLT]
  cases c3:(decide (v24<(p1.length:Int)))
  ·rw[c3,cond_false]at j8;try simp only[rnA]
   replace j8:=qab j8; subst j8;exact⟨_,⟨rfl,el3⟩,by rw[hT8]; exact wm0 [.k,.k,.k,.k] ⟨MB.cs ⟨qcb,qcb,qcb,qcb,qcb⟩,⟨MB.cs ⟨⟨qcb,qcb⟩,qcb⟩,⟨MB.cs ⟨qcb,qcb,qcb,qcb⟩,⟨MB.es (eI .i64) true l3,qcb⟩⟩⟩⟩⟩
  rw[c3,cond_true]at j8;obtain⟨x4,g5,j8⟩:=bind_some j8;obtain⟨r6,g7,j8⟩:=bind_some j8;try simp only[rnA,Nat.reduceEqDiff,Nat.reduceLT,Nat.reduceAdd,Nat.reduceLeDiff,zaB (n:=1) (e:=(eI .i64)) rfl g5]
  refine EvL.fn (zam g7) rfl rfl (.cons (.zaG (.cons (zaa _ _ (fun h=>nomatch h)) (.cons (zaa _ _ (fun h=>nomatch h)) (.cons (zaa _ _ (fun h=>nomatch h)) (.cons (zaa _ _ (fun h=>nomatch h)) .nil))))) (.cons (.lit _) .nil)) ?_;obtain⟨x8,g9,j8⟩:=bind_some j8;obtain⟨x10,g11,j8⟩:=bind_some j8;obtain⟨y12,g13,j8⟩:=bind_some j8;try simp only[rnA,Nat.reduceEqDiff,Nat.reduceLT,Nat.reduceLeDiff,zaB (n:=1) (e:=(eI .i64)) rfl g9,el3,zbq g11,(show v24<(((Int.toNat (p1.length:Int)):Nat):Int)from el3 ▸ zbr g11),zaQ g11 ((eI .i64).c true),(show(l3.map ((eI .i64).c true)).set v24.toNat [(dI x8)]=y12.map ((eI .i64).c true)from zbE g13 ((eI .i64).c true)),(zbd g13).trans el3,zaQ (zjr g13) ((eI .i64).c true)]
  exact⟨((w64 (v9 * x8)),(w64 (v24+1)),y12),⟨j8,(zbd g13).trans el3⟩,by rw[hT9]; exact wm0 [.k,.k,.k,.k] ⟨MB.cs ⟨qcb,qcb,qcb,qcb,qcb⟩,⟨MB.cs ⟨⟨qcb,qcb⟩,qcb⟩,⟨MB.cs ⟨qcb,qcb,qcb,qcb⟩,⟨MB.es (eI .i64) true y12,qcb⟩⟩⟩⟩⟩
 rintro⟨v9,l3⟩ ⟨rfl,el3⟩;dsimp only at h;rw[congrFun hT8 (v9,l3)];refine zac ?_;obtain⟨y14,g15,h⟩:=bind_some h;obtain⟨y16,g17,h⟩:=bind_some h;try simp only[rnA,Nat.reduceEqDiff,Nat.reduceLT,Nat.reduceAdd,Nat.reduceLeDiff,Nat.reduceBEq,zbk,(zau g15).1.1,(zau g15).1.2,qbn,(show List.replicate (Int.toNat v9) [(dI 0)]=y14.map ((eI .i64).c true)from zbw g15 ((eI .i64).c true)),(zau g17).1.1,(zau g17).1.2,(show List.replicate (Int.toNat (p0.factor.vars.length:Int)) [(dI 0)]=y16.map ((eI .i64).c true)from zbw g17 ((eI .i64).c true))]
 obtain⟨o10,j10,h⟩:=bind_some h;obtain⟨T10,hT10⟩:=mkT fun a:(List Int)=>⟨112,[(1,(fzE false (eI .i64) p1)),(3,(.ptr 0 0)),(5,(.ptr 1 0)),(6,(.ptr 2 0)),(8,(.sl 3 0 1 (Int.toNat (p1.length:Int)) (some (Int.toNat (p1.length:Int))) (Int.toNat (p1.length:Int)))),(12,(.ptr 5 0)),(13,(.sl 6 0 1 (Int.toNat (p0.factor.vars.length:Int)) (some (Int.toNat (p0.factor.vars.length:Int))) (Int.toNat (p0.factor.vars.length:Int))))],[.cells [(fzE false (eI .i64) p0.factor.vars),(fzE false (eI .i64) p0.factor.cards),(fzE false (eI .i64) p0.factor.w),(fzE false (eI .i64) p0.steps)],.cells [(.clo 89 [] [])],.cells [zaL,zaL,zaL],.els 1 (l3.map ((eI .i64).c true)),.els 1 (y14.map ((eI .i64).c true)),.cells [(.sl 4 0 1 (Int.toNat v9) (some (Int.toNat v9)) (Int.toNat v9))],.els 1 (a.map ((eI .i64).c true))]⟩
 refine EvL.jn T10 (fun a=>a=o10∧a.length=(Int.toNat (p0.factor.vars.length:Int))) ?_ ?_
 ·refine zac ?_;simp only[rnA];obtain⟨T11,hT11⟩:=mkT fun a:(Int×Int×(List Int))=>⟨112,[(1,(fzE false (eI .i64) p1)),(3,(.ptr 0 0)),(5,(.ptr 1 0)),(6,(.ptr 2 0)),(8,(.sl 3 0 1 (Int.toNat (p1.length:Int)) (some (Int.toNat (p1.length:Int))) (Int.toNat (p1.length:Int)))),(12,(.ptr 5 0)),(13,(.sl 6 0 1 (Int.toNat (p0.factor.vars.length:Int)) (some (Int.toNat (p0.factor.vars.length:Int))) (Int.toNat (p0.factor.vars.length:Int)))),(14,(dI a.1)),(15,(dI a.2.1))],[.cells [(fzE false (eI .i64) p0.factor.vars),(fzE false (eI .i64) p0.factor.cards),(fzE false (eI .i64) p0.factor.w),(fzE false (eI .i64) p0.steps)],.cells [(.clo 89 [] [])],.cells [zaL,zaL,zaL],.els 1 (l3.map ((eI .i64).c true)),.els 1 (y14.map ((eI .i64).c true)),.cells [(.sl 4 0 1 (Int.toNat v9) (some (Int.toNat v9)) (Int.toNat v9))],.els 1 (a.2.2.map ((eI .i64).c true))]⟩
  refine EvL.rounds (α:=(Int×Int×(List Int))) T11 (fun n a=>za9 p1 p0 l3 n a.1 a.2.1 a.2.2=some o10∧a.2.2.length=(Int.toNat (p0.factor.vars.length:Int))) ((w64 ((p1.length:Int) - 1)) - 0+2:Int).toNat (1,(w64 ((p1.length:Int) - 1)),y16) (by rw[hT11]; exact wm0 [.k,.k,.k,.k,.k,.k,.k] ⟨MB.cs ⟨qcb,qcb,qcb,qcb,qcb⟩,⟨MB.cs ⟨⟨qcb,qcb⟩,qcb⟩,⟨MB.cs ⟨qcb,qcb,qcb,qcb⟩,⟨MB.es (eI .i64) true l3,⟨MB.es (eI .i64) true y14,⟨MB.cs ⟨rfl,qcb⟩,⟨MB.es (eI .i64) true y16,qcb⟩⟩⟩⟩⟩⟩⟩) ⟨j10,zaC g17⟩ (fun _ h=>nomatch (show(none:Option (List Int))=some o10 from h.1)) ?_;rintro n ⟨v14,v15,l6⟩ ⟨j10,el6⟩;simp only[za9]at j10;rw[congrFun hT11 (v14,v15,l6)];refine zac ?_;try simp only[rnA,Nat.reduceEqDiff,Nat.reduceLT]
  cases c18:(decide (0≤v15))
  ·rw[c18,cond_false]at j10;try simp only[rnA]
   replace j10:=qab j10; subst j10;exact⟨_,⟨rfl,el6⟩,by rw[hT10]; exact wm0 [.k,.k,.k,.k,.k,.k,.k] ⟨MB.cs ⟨qcb,qcb,qcb,qcb,qcb⟩,⟨MB.cs ⟨⟨qcb,qcb⟩,qcb⟩,⟨MB.cs ⟨qcb,qcb,qcb,qcb⟩,⟨MB.es (eI .i64) true l3,⟨MB.es (eI .i64) true y14,⟨MB.cs ⟨rfl,qcb⟩,⟨MB.es (eI .i64) true l6,qcb⟩⟩⟩⟩⟩⟩⟩⟩
  rw[c18,cond_true]at j10;obtain⟨x19,g20,j10⟩:=bind_some j10;obtain⟨r21,g22,j10⟩:=bind_some j10;try simp only[rnA,Nat.reduceEqDiff,Nat.reduceLT,Nat.reduceAdd,Nat.reduceLeDiff,zaB (n:=1) (e:=(eI .i64)) rfl g20]
  refine EvL.fn (zam g22) rfl rfl (.cons (.zaG (.cons (zaa _ _ (fun h=>nomatch h)) (.cons (zaa _ _ (fun h=>nomatch h)) (.cons (zaa _ _ (fun h=>nomatch h)) (.cons (zaa _ _ (fun h=>nomatch h)) .nil))))) (.cons (.lit _) .nil)) ?_;obtain⟨x23,g24,j10⟩:=bind_some j10;obtain⟨y25,g26,j10⟩:=bind_some j10;obtain⟨x27,g28,j10⟩:=bind_some j10;try simp only[rnA,Nat.reduceEqDiff,Nat.reduceLT,Nat.reduceLeDiff,el6,zbq g24,(show r21<(((Int.toNat (p0.factor.vars.length:Int)):Nat):Int)from el6 ▸ zbr g24),zaQ g24 ((eI .i64).c true),(show(l6.map ((eI .i64).c true)).set r21.toNat [(dI v14)]=y25.map ((eI .i64).c true)from zbE g26 ((eI .i64).c true)),el3,zbq g28,(show v15<(((Int.toNat (p1.length:Int)):Nat):Int)from el3 ▸ zbr g28),zaQ g28 ((eI .i64).c true)]
  exact⟨((w64 (v14 * x27)),(w64 (v15 - 1)),y25),⟨j10,(zbd g26).trans el6⟩,by rw[hT11]; exact wm0 [.k,.k,.k,.k,.k,.k,.k] ⟨MB.cs ⟨qcb,qcb,qcb,qcb,qcb⟩,⟨MB.cs ⟨⟨qcb,qcb⟩,qcb⟩,⟨MB.cs ⟨qcb,qcb,qcb,qcb⟩,⟨MB.es (eI .i64) true l3,⟨MB.es (eI .i64) true y14,⟨MB.cs ⟨rfl,qcb⟩,⟨MB.es (eI .i64) true y25,qcb⟩⟩⟩⟩⟩⟩⟩⟩
 rintro l6 ⟨rfl,el6⟩;rw[congrFun hT10 l6];refine zac ?_;try simp only[rnA,Nat.reduceEqDiff,Nat.reduceLT,Nat.reduceAdd,Nat.reduceLeDiff]
 refine EvL.zcY (S':=⟨112,[(1,(fzE false (eI .i64) p1)),(3,(.ptr 0 0)),(5,(.ptr 1 0)),(6,(.ptr 2 0)),(8,(.sl 3 0 1 (Int.toNat (p1.length:Int)) (some (Int.toNat (p1.length:Int))) (Int.toNat (p1.length:Int)))),(12,(.ptr 5 0)),(16,(.ptr 7 0)),(78,(fzE false (eI .i64) p0.factor.cards)),(79,(fzE true (eI .i64) l6))],[.cells [(fzE false (eI .i64) p0.factor.vars),(fzE false (eI .i64) p0.factor.cards),(fzE false (eI .i64) p0.factor.w),(fzE false (eI .i64) p0.steps)],.cells [(.clo 89 [] [])],.cells [zaL,zaL,zaL],.els 1 (l3.map ((eI .i64).c true)),.els 1 (y14.map ((eI .i64).c true)),.cells [(.sl 4 0 1 (Int.toNat v9) (some (Int.toNat v9)) (Int.toNat v9))],.gone,.cells [(dB true)]]⟩) (zbl.m0 [.k,.k,.k,.k,.k,.k,.f,.k] rfl (msq (msq (msq (msq (msq (msq (msq (msq (mf rfl (zal (e:=(eI .i64)) (t:=true) rfl rfl (.inl rfl) (el6).symm (el6).symm (fun k h=>by cases h; exact qaf _) (fun h=>by cases h<;>rfl)) trivial))))))))) ⟨MB.cs ⟨qcb,qcb,qcb,qcb,qcb⟩,⟨MB.cs ⟨⟨qcb,qcb⟩,qcb⟩,⟨MB.cs ⟨qcb,qcb,qcb,qcb⟩,⟨MB.es (eI .i64) true l3,⟨MB.es (eI .i64) true y14,⟨MB.cs ⟨rfl,qcb⟩,⟨rfl,⟨MB.cs ⟨qcb,qcb⟩,qcb⟩⟩⟩⟩⟩⟩⟩⟩) (zac ?_);obtain⟨r29,g30,h⟩:=bind_some h;try simp only[rnA]
 refine EvL.fnS (zbm g30) rfl rfl (.cons (zad _ _ (fun h=>by cases h<;>contradiction)) (.cons (zad _ _ (fun h=>by cases h<;>contradiction)) .nil)) ⟨(zab _ _),(zab _ _),qcb⟩ ⟨qcb,⟨⟨rfl,zab _ _,qcb⟩,⟨rfl,zab _ _,qcb⟩,qcb⟩⟩ ?_;try simp only[rnA,Nat.reduceLT]
 obtain⟨o13,j13,h⟩:=bind_some h;obtain⟨T13,hT13⟩:=mkT fun a:(Bool×(List Int))=>⟨112,[(1,(fzE false (eI .i64) p1)),(6,(.ptr 2 0)),(8,(.sl 3 0 1 (Int.toNat (p1.length:Int)) (some (Int.toNat (p1.length:Int))) (Int.toNat (p1.length:Int)))),(12,(.ptr 5 0)),(16,(.ptr 7 0))],[.gone,.gone,.cells [zaL,zaL,zaL],.els 1 (l3.map ((eI .i64).c true)),.els 1 (a.2.map ((eI .i64).c true)),.cells [(.sl 4 0 1 (Int.toNat v9) (some (Int.toNat v9)) (Int.toNat v9))],.gone,.cells [(dB a.1)]]⟩
 refine EvL.jn T13 (fun a=>a=o13∧a.2.length=(Int.toNat v9)) ?_ ?_
 ·refine zac ?_;try simp only[rnA]
  obtain⟨u31,g32,j13⟩:=bind_some j13;obtain⟨o14,j14,j13⟩:=bind_some j13;obtain⟨T14,hT14⟩:∃ T:(List Int)→List LB,T=(fun a=>[.cells [(fzE false (eI .i64) p0.factor.vars),(fzE false (eI .i64) p0.factor.cards),(fzE false (eI .i64) p0.factor.w),(fzE false (eI .i64) p0.steps)],.cells [(.clo 89 [] [])],.cells [zaL,zaL,zaL],.els 1 (l3.map ((eI .i64).c true)),.els 1 (a.map ((eI .i64).c true)),.cells [(.sl 4 0 1 (Int.toNat v9) (some (Int.toNat v9)) (Int.toNat v9))],.gone,.cells [(dB true)]]):=⟨_,rfl⟩;obtain⟨TX14,hTX14⟩:∃ T:(List Int)→List LB,T=(fun a=>[.cells [(fzE false (eI .i64) p0.factor.vars),(fzE false (eI .i64) p0.factor.cards),(fzE false (eI .i64) p0.factor.w),(fzE false (eI .i64) p0.steps)],.cells [(.clo 89 [] [])],.cells [zaL,zaL,zaL],.els 1 (l3.map ((eI .i64).c true)),.els 1 (a.map ((eI .i64).c true)),.cells [(.sl 4 0 1 (Int.toNat v9) (some (Int.toNat v9)) (Int.toNat v9))],.gone,.cells [(dB false)]]):=⟨_,rfl⟩;refine EvL.zcY (S':=⟨112,[(1,(fzE false (eI .i64) p1)),(3,(.ptr 0 0)),(5,(.ptr 1 0)),(6,(.ptr 2 0)),(8,(.sl 3 0 1 (Int.toNat (p1.length:Int)) (some (Int.toNat (p1.length:Int))) (Int.toNat (p1.length:Int)))),(12,(.ptr 5 0)),(16,(.ptr 7 0)),(80,(.clo 120 [] [(.fptr false ((eL (eI .i64)).c false r29.1)),(.fptr false ((eL (eI .i64)).c false r29.2))]))],T14 y14⟩) (by rw[hT14]; exact wm0 [.k,.k,.k,.k,.k,.k,.k,.k] ⟨MB.cs ⟨qcb,qcb,qcb,qcb,qcb⟩,⟨MB.cs ⟨⟨qcb,qcb⟩,qcb⟩,⟨MB.cs ⟨qcb,qcb,qcb,qcb⟩,⟨MB.es (eI .i64) true l3,⟨MB.es (eI .i64) true y14,⟨MB.cs ⟨rfl,qcb⟩,⟨MB.same trivial,⟨MB.cs ⟨qcb,qcb⟩,qcb⟩⟩⟩⟩⟩⟩⟩⟩) ?_;refine EvL.zhU (n0:=8) (zbf g32) rfl (bm:=.block 5 (.seq (.reg true true [⟨some 84,.load none (.s 12),none⟩,⟨some 85,.mov (.s 18),none⟩,⟨some 86,.fld 0 (.s 5),none⟩,⟨some 87,.load none (.s 86),none⟩,⟨some 88,.load none (.s 12),none⟩,⟨some 89,.mov (.s 18),none⟩,⟨some 90,.idxS 1 (.s 88) (.s 89),none⟩,⟨some 91,.load none (.s 90),none⟩,⟨some 92,.fld 0 (.s 3),none⟩,⟨some 93,.fld 2 (.s 92),none⟩,⟨some 94,.load none (.s 93),none⟩,⟨some 95,.mov (.s 17),none⟩,⟨some 96,.idxS 1 (.s 94) (.s 95),none⟩,⟨some 97,.load none (.s 96),none⟩,⟨some 98,.za2 (.s 87) [(.s 91),(.s 97)],none⟩,⟨some 83,.mov (.s 98),none⟩,⟨some 99,.ext (.s 83) 0,none⟩,⟨some 100,.ext (.s 83) 1,none⟩,⟨some 101,.idxS 1 (.s 84) (.s 85),none⟩,⟨none,.store 1 (.s 101) (.s 99),none⟩,⟨none,.store 1 (.s 16) (.s 100),none⟩]) (.block 6 (.seq (.reg false false [⟨some 103,.load none (.s 16),none⟩,⟨some 104,.un .not (.s 103),none⟩,⟨some 102,.mov (.s 104),none⟩]) (.cond (.s 102) (.exit 4) (.skip)))))) rfl T14 (fun i a=>zaP p0 v9 (u31.drop i) a=some o14∧a.length=(Int.toNat v9)) (fun x L1=>match x with | .normal=>∃ a,o14=.go a∧a.length=(Int.toNat v9)∧L1=T14 a | .exit id=>∃ a,o14=.brk a∧a.length=(Int.toNat v9)∧id=4∧L1=TX14 a | .ret=>L1.length=8∧zd8 (8+1) L1∧(zeV [.cell 6 (some 3),.tmp 7] ((.tup [(.agg [(fzE false (eI .i64) r.1.vars),(fzE false (eI .i64) r.1.cards),(fzE false (eI .i64) r.1.w)]),(dI r.2)]))) .ret ⟨112,[(1,(fzE false (eI .i64) p1)),(3,(.ptr 0 0)),(5,(.ptr 1 0)),(6,(.ptr 2 0)),(8,(.sl 3 0 1 (Int.toNat (p1.length:Int)) (some (Int.toNat (p1.length:Int))) (Int.toNat (p1.length:Int)))),(12,(.ptr 5 0)),(16,(.ptr 7 0)),(80,(.clo 120 [] [(.fptr false ((eL (eI .i64)).c false r29.1)),(.fptr false ((eL (eI .i64)).c false r29.2))]))],L1 ++ [.lost]⟩| _=>False) y14 ?_ (qaU _) ?_ ?_ ?_ (fun d L1 hx=>hx.elim) ?_ ?_ ?_ ?_ ?_ ?_
  ·intro a; rw[hT14]; rfl
  ·exact⟨qcb,(qac rfl),(qac rfl),(qac rfl),(qac rfl),(qac rfl),(qac rfl),⟨qcb,⟨qcb,qcb,qcb⟩⟩,qcb⟩
  ·intro a; rw[hT14]; exact⟨⟨qcb,qcb,qcb,qcb,qcb⟩,⟨⟨qcb,qcb⟩,qcb⟩,⟨qcb,qcb,qcb,qcb⟩,(zcj (eI .i64) _ _ _),(zcj (eI .i64) _ _ _),⟨(qac rfl),qcb⟩,qcb,⟨qcb,qcb⟩,qcb⟩
  ·intro x L1 hx;cases x with
   | normal=>obtain⟨a,_,_,rfl⟩:=hx; exact⟨by rw[hT14]; rfl,by rw[hT14]; exact⟨⟨qcb,qcb,qcb,qcb,qcb⟩,⟨⟨qcb,qcb⟩,qcb⟩,⟨qcb,qcb,qcb,qcb⟩,(zcj (eI .i64) _ _ _),(zcj (eI .i64) _ _ _),⟨(qac rfl),qcb⟩,qcb,⟨qcb,qcb⟩,qcb⟩⟩
   | ret=>exact⟨hx.1,hx.2.1⟩
   | exit id=>obtain⟨a,_,_,_,rfl⟩:=hx; exact⟨by rw[hTX14]; rfl,by rw[hTX14]; exact⟨⟨qcb,qcb,qcb,qcb,qcb⟩,⟨⟨qcb,qcb⟩,qcb⟩,⟨qcb,qcb,qcb,qcb⟩,(zcj (eI .i64) _ _ _),(zcj (eI .i64) _ _ _),⟨(qac rfl),qcb⟩,qcb,⟨qcb,qcb⟩,qcb⟩⟩
   | panic d=>exact hx.elim
  ·exact⟨j14,zaC g15⟩
  ·rintro i l4 y33 args G lpF hy ⟨hi14,el4⟩ ⟨rfl,rfl⟩ hkin;rw[zew hy]at hi14;simp only[zaP]at hi14;refine⟨_,_,rfl,rfl,?_⟩;rw[congrFun hT14 l4];refine zac ?_;obtain⟨x34,g35,hi14⟩:=bind_some hi14;obtain⟨x36,g37,hi14⟩:=bind_some hi14;obtain⟨r38,g39,hi14⟩:=bind_some hi14;try simp only[rnA,Nat.reduceEqDiff,Nat.reduceLT,Nat.reduceAdd,el4,zbq g35,(show y33.2.1<(((Int.toNat v9):Nat):Int)from el4 ▸ zbr g35),zaQ g35 ((eI .i64).c true),zaB (n:=1) (e:=(eI .i64)) rfl g37]
   refine EvL.fnv rfl rfl (zfd g39) rfl (.cons (.lit _) (.cons (.lit _) .nil)) ?_;obtain⟨y40,g41,hi14⟩:=bind_some hi14;try simp only[rnA,Nat.reduceEqDiff,Nat.reduceLT,Nat.reduceLeDiff,el4,zbq g35,(show y33.2.1<(((Int.toNat v9):Nat):Int)from el4 ▸ zbr g35),zaQ g35 ((eI .i64).c true),(show(l4.map ((eI .i64).c true)).set y33.2.1.toNat [(dI r38.1)]=y40.map ((eI .i64).c true)from zbE g41 ((eI .i64).c true))]
   cases c42:r38.2
   ·rw[c42,cond_false]at hi14;try simp only[rnA,Nat.reduceEqDiff]
    replace hi14:=qab hi14; subst hi14;exact⟨TX14 y40,by rw[hTX14]; rfl,by rw[hTX14]; exact zbl.mK [.k,.k,.k,.k,.k,.k,.k,.k,.k,.k] rfl rfl qcb ⟨MB.cs ⟨qcb,qcb,qcb,qcb,qcb⟩,⟨MB.cs ⟨⟨qcb,qcb⟩,qcb⟩,⟨MB.cs ⟨qcb,qcb,qcb,qcb⟩,⟨MB.es (eI .i64) true l3,⟨MB.es (eI .i64) true y40,⟨MB.cs ⟨rfl,qcb⟩,⟨MB.same trivial,⟨MB.cs ⟨qcb,qcb⟩,⟨.same (hkin _ (by decide)),⟨MB.same (zcT _ _ _ _),qcb⟩⟩⟩⟩⟩⟩⟩⟩⟩⟩,y40,rfl,(zbd g41).trans el4,rfl⟩
   rw[c42,cond_true]at hi14;try simp only[rnA]
   exact⟨T14 y40,by rw[hT14]; rfl,by rw[hT14]; exact zbl.mK [.k,.k,.k,.k,.k,.k,.k,.k,.k,.k] rfl rfl qcb ⟨MB.cs ⟨qcb,qcb,qcb,qcb,qcb⟩,⟨MB.cs ⟨⟨qcb,qcb⟩,qcb⟩,⟨MB.cs ⟨qcb,qcb,qcb,qcb⟩,⟨MB.es (eI .i64) true l3,⟨MB.es (eI .i64) true y40,⟨MB.cs ⟨rfl,qcb⟩,⟨MB.same trivial,⟨MB.cs ⟨qcb,qcb⟩,⟨.same (hkin _ (by decide)),⟨MB.same (zcT _ _ _ _),qcb⟩⟩⟩⟩⟩⟩⟩⟩⟩⟩,y40,⟨hi14,(zbd g41).trans el4⟩,rfl⟩
  ·rintro l4 ⟨hi14,el4⟩;rw[qaY]at hi14;simp only[zaP]at hi14;exact⟨l4,(qab hi14).symm,el4,rfl⟩
  ·rintro _ ⟨l4,oeq,el4,rfl⟩;have oeq2:=oeq.symm;subst oeq2;dsimp only at j13;rw[congrFun hT14 l4];refine zac ?_;try simp only[rnA]
   replace j13:=qab j13; subst j13;exact⟨_,⟨rfl,el4⟩,by rw[hT13]; exact wm0 [.d,.d,.k,.k,.k,.k,.d,.k] ⟨rfl,⟨rfl,⟨MB.cs ⟨qcb,qcb,qcb,qcb⟩,⟨MB.es (eI .i64) true l3,⟨MB.es (eI .i64) true l4,⟨MB.cs ⟨rfl,qcb⟩,⟨rfl,⟨MB.cs ⟨qcb,qcb⟩,qcb⟩⟩⟩⟩⟩⟩⟩⟩⟩
  ·rintro id _ ⟨l4,oeq,el4,rfl,rfl⟩;rw[oeq]at j13;dsimp only at j13;rw[congrFun hTX14 l4];refine zac ?_;try simp only[rnA]
   replace j13:=qab j13; subst j13;exact⟨_,⟨rfl,el4⟩,by rw[hT13]; exact wm0 [.d,.d,.k,.k,.k,.k,.d,.k] ⟨rfl,⟨rfl,⟨MB.cs ⟨qcb,qcb,qcb,qcb⟩,⟨MB.es (eI .i64) true l3,⟨MB.es (eI .i64) true l4,⟨MB.cs ⟨rfl,qcb⟩,⟨rfl,⟨MB.cs ⟨qcb,qcb⟩,qcb⟩⟩⟩⟩⟩⟩⟩⟩⟩
  intro L1 hx; exact hx.2.2
 rintro⟨b7_0,l4⟩ ⟨rfl,el4⟩;dsimp only at h;rw[congrFun hT13 (b7_0,l4)];refine zac ?_;try simp only[rnA,Nat.reduceEqDiff,Nat.reduceLT]
 cases c43:b7_0
 ·rw[c43,cond_false]at h;try simp only[rnA,Nat.reduceEqDiff,Nat.reduceLT,Nat.reduceAdd,Nat.reduceLeDiff]
  replace h:=qab h; subst h;exact zeV.ret rfl (Snp.zdn (.cons (.zaG (.cons (zai (eI .i64)) (.cons (zai (eI .i64)) (.cons (zai (eI .i64)) .nil)))) (.cons (.lit _) .nil)))
 rw[c43,cond_true]at h;try simp only[rnA,Nat.reduceEqDiff,Nat.reduceLT,Nat.reduceAdd,Nat.reduceLeDiff]
 replace h:=qab h; subst h;exact zeV.ret rfl (Snp.zdn (.cons (.zaG (.cons (zaa _ _ (fun h=>nomatch h)) (.cons (zbh (e:=(eI .i64)) (t:=true) rfl (.inl rfl) (el3).symm (el3).symm (fun k h=>by cases h; exact qaf _) (fun h=>nomatch h)) (.cons (zbh (e:=(eI .i64)) (t:=true) rfl (.inl rfl) (el4).symm (el4).symm (fun k h=>by cases h; exact qaf _) (fun h=>nomatch h)) .nil)))) (.cons (.lit _) .nil)))
def zcR(p0:S_api_Factor)(p1:Int):Option (S_api_Factor×Int):=
(zaE p0).bind fun r1=>
bif (r1.2 == 0)then(
(zaj r1.1 p1).bind fun r4=>
bif (decide (r4<0))then(
some ((S_api_Factor.mk [] [] []),4))
else(
(zda 8 r1.1.factor.vars).bind fun y7=>
(zoE y7 r4 (w64 (r4+1))).bind fun y9=>
(zbL r1.1 y9).bind fun r11=>
some (r11.1,r11.2)))
else(
some ((S_api_Factor.mk [] [] []),r1.2))
def zdO:C:=
 .seq (rg [oW 3 0,
 oW 5 2,
 ⟨some 6,.alloc [(.slice none 0 0),(.slice none 0 0),(.slice none 0 0)],none⟩,
 oK 7 0])
 (.seq (rg [oN 12 3 3,
 oU 13 77 12,
 oM 11 13,
 oX 14 11 0,
 oX 15 11 1,
 ⟨some 8,.alloc [(.slice none 0 0),(.slice none 0 0),(.slice none 0 0),(.slice none 0 0)],none⟩,
 oS 4 8 14,
 oM 9 15])
 (.seq (.seq (rg [oM 16 9,
 oD 17 .neq 16 0])
 (.cond (.s 17) (.seq (rg [⟨some 18,.build [(.slice none 0 0),(.slice none 0 0),(.slice none 0 0)] [],none⟩,
 oM 19 9,
 oS 3 6 18,
 oM 7 19])
 (.ret))
 (.skip)))
 (.seq (rg [oN 20 4 8,
 oM 21 1,
 oV 22 90 20 21,
 oM 10 22])
 (.seq (.seq (rg [oM 23 10,
 oD 24 .lss 23 0])
 (.cond (.s 24) (.seq (rg [⟨some 25,.build [(.slice none 0 0),(.slice none 0 0),(.slice none 0 0)] [],none⟩,
 oS 3 6 25,
 oK 7 4])
 (.ret))
 (.skip)))
 (.seq (.reg true false [oN 26 4 8,
 oF 27 0 8,
 oF 28 0 27,
 oL 29 28,
 oM 31 10,
 oM 32 10,
 oD 33 .add 32 1,
 oN 35 1 5,
 oU 30 25 29,
 ⟨none,.avo [(.s 8),(.s 5)] (.s 30),none⟩,
 ⟨some 34,.call 91 [(.s 30),(.s 31),(.s 33)],none⟩,
 ⟨some 36,.call 78 [(.s 26),(.s 34),(.s 35)],none⟩,
 oX 37 36 0,
 oX 38 36 1,
 oS 3 6 37,
 oM 7 38])
 (.ret))))))
theorem zeM:zgs mC 88=some (39,zdO,[.cell 6 (some 3),.tmp 7],false):=zbj (by kernel_rfl)
theorem zfg{p0:S_api_Factor}{p1:Int}{r:(S_api_Factor×Int)}(h:zcR p0 p1=some r):Lx.FnA mC 88 [(.agg [(fzE false (eI .i64) p0.vars),(fzE false (eI .i64) p0.cards),(fzE false (eI .i64) p0.w)]),(dI p1),(.agg [(.clo 89 [] [])])] (.tup [(.agg [(fzE false (eI .i64) r.1.vars),(fzE false (eI .i64) r.1.cards),(fzE false (eI .i64) r.1.w)]),(dI r.2)]):=by
 refine FnA.of zeM (zbc rfl) (qac rfl) ?_;unfold zcR at h;simp only[zdO,zkx];refine zac ?_;obtain⟨r1,g2,h⟩:=bind_some h;try simp only[rnA,Nat.reduceEqDiff,Nat.reduceLT,Nat.reduceAdd,Nat.reduceLeDiff,reduceCtorEq]
 refine EvL.fnS (zaX g2) rfl rfl (.cons (Mzs.agg (.cons (zad _ _ (fun h=>by cases h<;>contradiction)) (.cons (zad _ _ (fun h=>by cases h<;>contradiction)) (.cons (zad _ _ (fun h=>by cases h<;>contradiction)) .nil)))) .nil) ⟨⟨(zab _ _),(zab _ _),(zab _ _),qcb⟩,qcb⟩ ⟨⟨(zab _ _),(zab _ _),(zab _ _),(zab _ _),qcb⟩,qcb,qcb⟩ ?_;try simp only[rnA,Nat.reduceEqDiff,Nat.reduceLT,Nat.reduceAdd,Nat.reduceLeDiff,reduceCtorEq]
 cases c3:(r1.2 == 0)
 ·rw[c3,cond_false]at h;try simp only[rnA,Nat.reduceEqDiff,Nat.reduceLT,Nat.reduceAdd,Nat.reduceLeDiff,reduceCtorEq]
  replace h:=qab h; subst h;exact zeV.ret rfl (Snp.zdn (.cons (.zaG (.cons (zai (eI .i64)) (.cons (zai (eI .i64)) (.cons (zai (eI .i64)) .nil)))) (.cons (.lit _) .nil)))
 rw[c3,cond_true]at h;obtain⟨r4,g5,h⟩:=bind_some h;try simp only[rnA,Nat.reduceEqDiff,Nat.reduceLT,Nat.reduceAdd,Nat.reduceLeDiff,reduceCtorEq]
 refine EvL.fn (zam g5) rfl rfl (.cons (.zaG (.cons (zaa _ _ (fun h=>nomatch h)) (.cons (zaa _ _ (fun h=>nomatch h)) (.cons (zaa _ _ (fun h=>nomatch h)) (.cons (zaa _ _ (fun h=>nomatch h)) .nil))))) (.cons (.lit _) .nil)) ?_;try simp only[rnA,Nat.reduceEqDiff,Nat.reduceLT,reduceCtorEq]
 cases c6:(decide (r4<0))
 ·rw[c6,cond_false]at h;obtain⟨y7,g8,h⟩:=bind_some h;try simp only[rnA,Nat.reduceEqDiff,Nat.reduceLT,Nat.reduceAdd,Nat.reduceLeDiff,reduceCtorEq]
  refine EvL.clone (t:=false) (zs:=r1.1.factor.vars) g8 rfl rfl ?_;obtain⟨y9,g10,h⟩:=bind_some h;try simp only[rnA,Nat.reduceEqDiff,Nat.reduceLT,Nat.reduceAdd,Nat.reduceBEq,reduceCtorEq]
  refine EvL.delete (zs:=y7) (t:=true) g10 rfl rfl rfl rfl rfl rfl ?_;refine EvL.zcY (S':=⟨39,[(6,(.ptr 2 0)),(26,(.agg [(fzE false (eI .i64) r1.1.factor.vars),(fzE false (eI .i64) r1.1.factor.cards),(fzE false (eI .i64) r1.1.factor.w),(fzE false (eI .i64) r1.1.steps)])),(34,(fzE true (eI .i64) y9)),(35,(.agg [(.clo 89 [] [])]))],[.gone,.gone,.cells [zaL,zaL,zaL]]⟩) (zbl.m0 [.d,.d,.k,.d,.f] rfl (msq (ms rfl ⟨qcb,qcb,qcb,qcb,qcb⟩ (mf rfl (zg4 (xs:=y7) (ys:=y9) (t:=true) (ziP g10) rfl rfl rfl (fun _=>rfl)) (ms rfl ⟨⟨qcb,qcb⟩,qcb⟩ trivial)))) ⟨rfl,⟨rfl,⟨MB.cs ⟨qcb,qcb,qcb,qcb⟩,qcb⟩⟩⟩) (zac ?_);obtain⟨r11,g12,h⟩:=bind_some h;try simp only[rnA]
  refine EvL.fnS (zdE g12) rfl rfl (.cons (Mzs.agg (.cons (zad _ _ (fun h=>by cases h<;>contradiction)) (.cons (zad _ _ (fun h=>by cases h<;>contradiction)) (.cons (zad _ _ (fun h=>by cases h<;>contradiction)) (.cons (zad _ _ (fun h=>by cases h<;>contradiction)) .nil))))) (.cons (zad _ _ (fun h=>by cases h<;>contradiction)) (.cons (Mzs.agg (.cons zfN .nil)) .nil))) ⟨⟨(zab _ _),(zab _ _),(zab _ _),(zab _ _),qcb⟩,(zab _ _),⟨⟨qcb,qcb⟩,qcb⟩,qcb⟩ ⟨⟨(zab _ _),(zab _ _),(zab _ _),qcb⟩,qcb,qcb⟩ ?_;try simp only[rnA,Nat.reduceEqDiff,Nat.reduceLT,Nat.reduceAdd,Nat.reduceLeDiff]
  replace h:=qab h; subst h;exact zeV.ret rfl (Snp.zdn (.cons (.zaG (.cons (zaa _ _ (fun h=>nomatch h)) (.cons (zaa _ _ (fun h=>nomatch h)) (.cons (zaa _ _ (fun h=>nomatch h)) .nil)))) (.cons (.lit _) .nil)))
 rw[c6,cond_true]at h;try simp only[rnA,Nat.reduceEqDiff,Nat.reduceLT,Nat.reduceAdd,Nat.reduceLeDiff,reduceCtorEq]
 replace h:=qab h; subst h;exact zeV.ret rfl (Snp.zdn (.cons (.zaG (.cons (zai (eI .i64)) (.cons (zai (eI .i64)) (.cons (zai (eI .i64)) .nil)))) (.cons (.lit _) .nil)))
def zcG(p0:S_api_Factor)(p1:Int):Option (S_api_Factor×Int):=
(zcR p0 p1).bind fun r1=>
some (r1.1,r1.2)
theorem zd3{p0:S_api_Factor}{p1:Int}{r:(S_api_Factor×Int)}(h:zcG p0 p1=some r):Lx.FnA mC 34 [(.agg [(fzE false (eI .i64) p0.vars),(fzE false (eI .i64) p0.cards),(fzE false (eI .i64) p0.w)]),(dI p1)] (.tup [(.agg [(fzE false (eI .i64) r.1.vars),(fzE false (eI .i64) r.1.cards),(fzE false (eI .i64) r.1.w)]),(dI r.2)]):=by
 refine zr7 (by conv=>lhs; cbv) ?_;unfold zcG at h;refine zac ?_;obtain⟨r1,g2,h⟩:=bind_some h;try simp only[rnA,Nat.reduceEqDiff,reduceIte,Nat.reduceLT,Nat.reduceAdd,Nat.reduceLeDiff,Nat.reduceMul,Nat.reduceSub,Int.reduceLE,Int.reduceLT,Int.reduceBEq,Nat.reduceBEq,reduceCtorEq,zae,zcC]
 refine EvL.fnS (zfg g2) rfl rfl (.cons (Mzs.agg (.cons (zad _ _ (fun h=>by cases h<;>contradiction)) (.cons (zad _ _ (fun h=>by cases h<;>contradiction)) (.cons (zad _ _ (fun h=>by cases h<;>contradiction)) .nil)))) (.cons (.lit _) (.cons (Mzs.agg (.cons zfN .nil)) .nil))) ⟨⟨(zab _ _),(zab _ _),(zab _ _),qcb⟩,qcb,⟨⟨qcb,qcb⟩,qcb⟩,qcb⟩ ⟨⟨(zab _ _),(zab _ _),(zab _ _),qcb⟩,qcb,qcb⟩ ?_;try simp only[rnA,Nat.reduceEqDiff,reduceIte,Nat.reduceLT,Nat.reduceAdd,Nat.reduceLeDiff,Nat.reduceMul,Nat.reduceSub,Int.reduceLE,Int.reduceLT,Int.reduceBEq,Nat.reduceBEq,reduceCtorEq,zae]
 replace h:=qab h; subst h;exact zeV.ret rfl (Snp.zdn (.cons (.zaG (.cons (zaa _ _ (fun h=>nomatch h)) (.cons (zaa _ _ (fun h=>nomatch h)) (.cons (zaa _ _ (fun h=>nomatch h)) .nil)))) (.cons (.lit _) .nil)))
def zc2(p1:(List Int)):Nat→Int→Option (Out Unit (S_api_Factor×Int))
 | 0,_=>none
 | n+1,v8=>(
bif (decide (v8<(p1.length:Int)))then(
(zbN p1 v8).bind fun x5=>
(zbN p1 (w64 (v8 - 1))).bind fun x7=>
bif (decide (x5≤x7))then(
some (.ret ((S_api_Factor.mk [] [] []),2)))
else(
zc2 p1 n (w64 (v8+1))))
else(
some (.go ())))
def zc0(p1:(List Int))(r1:(S_factor_table×Int)):Nat→Int→Option (Out Unit (S_api_Factor×Int))
 | 0,_=>none
 | n+1,v39=>(
bif (decide (v39<(p1.length:Int)))then(
(zbN p1 v39).bind fun x11=>
(zaj r1.1 x11).bind fun r13=>
bif (decide (r13<0))then(
some (.ret ((S_api_Factor.mk [] [] []),4)))
else(
zc0 p1 r1 n (w64 (v39+1))))
else(
some (.go ())))
def zbt(p0:S_api_Factor)(p1:(List Int)):Option (S_api_Factor×Int):=
(zaE p0).bind fun r1=>
bif (r1.2 == 0)then(
((zc2 p1 ((p1.length:Int) - 1+2:Int).toNat 1:Option (Out Unit (S_api_Factor×Int)))).bind fun o=>match o with
| .go _=>(
((zc0 p1 r1 ((p1.length:Int) - 0+2:Int).toNat 0:Option (Out Unit (S_api_Factor×Int)))).bind fun o=>match o with
| .go _=>(
(zda 8 p1).bind fun y16=>
(zaT r1.1 y16).bind fun r18=>
some (r18.1,r18.2))
| .ret r=>some r)
| .ret r=>some r)
else(
some ((S_api_Factor.mk [] [] []),r1.2))
theorem zbZ{p0:S_api_Factor}{p1:(List Int)}{r:(S_api_Factor×Int)}(h:zbt p0 p1=some r):Lx.FnA mC 35 [(.agg [(fzE false (eI .i64) p0.vars),(fzE false (eI .i64) p0.cards),(fzE false (eI .i64) p0.w)]),(fzE false (eI .i64) p1)] (.tup [(.agg [(fzE false (eI .i64) r.1.vars),(fzE false (eI .i64) r.1.cards),(fzE false (eI .i64) r.1.w)]),(dI r.2)]):=by
 refine zr7 (by conv=>lhs; cbv) ?_;unfold zbt at h;refine zac ?_;obtain⟨r1,g2,h⟩:=bind_some h;try simp only[rnA,Nat.reduceEqDiff,Nat.reduceLT,Nat.reduceAdd,Nat.reduceLeDiff,reduceCtorEq]
 refine EvL.fnS (zaX g2) rfl rfl (.cons (Mzs.agg (.cons (zad _ _ (fun h=>by cases h<;>contradiction)) (.cons (zad _ _ (fun h=>by cases h<;>contradiction)) (.cons (zad _ _ (fun h=>by cases h<;>contradiction)) .nil)))) .nil) ⟨⟨(zab _ _),(zab _ _),(zab _ _),qcb⟩,qcb⟩ ⟨⟨(zab _ _),(zab _ _),(zab _ _),(zab _ _),qcb⟩,qcb,qcb⟩ ?_;try simp only[rnA,Nat.reduceEqDiff,Nat.reduceLT,Nat.reduceAdd,Nat.reduceLeDiff,reduceCtorEq]
 cases c3:(r1.2 == 0)
 ·rw[c3,cond_false]at h;try simp only[rnA,Nat.reduceEqDiff,Nat.reduceLT,Nat.reduceAdd,Nat.reduceLeDiff,reduceCtorEq]
  replace h:=qab h; subst h;exact zeV.ret rfl (Snp.zdn (.cons (.zaG (.cons (zai (eI .i64)) (.cons (zai (eI .i64)) (.cons (zai (eI .i64)) .nil)))) (.cons (.lit _) .nil)))
 rw[c3,cond_true]at h;try simp only[rnA,Nat.reduceLT]
 obtain⟨o1,j1,h⟩:=bind_some h;obtain⟨T1,hT1⟩:=mkT fun a:Unit=>⟨56,[(1,(fzE false (eI .i64) p1)),(4,(.ptr 1 0)),(6,(.ptr 2 0))],[.gone,.cells [zaL,zaL,zaL],.cells [(fzE false (eI .i64) r1.1.factor.vars),(fzE false (eI .i64) r1.1.factor.cards),(fzE false (eI .i64) r1.1.factor.w),(fzE false (eI .i64) r1.1.steps)]]⟩
 refine EvL.jn T1 (fun a=>o1=.go a) ?_ ?_
 ·refine zac ?_;simp only[rnA];obtain⟨T2,hT2⟩:=mkT fun a:Int=>⟨56,[(1,(fzE false (eI .i64) p1)),(4,(.ptr 1 0)),(6,(.ptr 2 0)),(8,(dI a))],[.gone,.cells [zaL,zaL,zaL],.cells [(fzE false (eI .i64) r1.1.factor.vars),(fzE false (eI .i64) r1.1.factor.cards),(fzE false (eI .i64) r1.1.factor.w),(fzE false (eI .i64) r1.1.steps)]]⟩
  refine EvL.rounds (α:=Int) T2 (fun n a=>zc2 p1 n a=some o1) ((p1.length:Int) - 1+2:Int).toNat 1 (by rw[hT2]; exact wm0 [.d,.k,.k] ⟨rfl,⟨MB.cs ⟨qcb,qcb,qcb,qcb⟩,⟨MB.cs ⟨qcb,qcb,qcb,qcb,qcb⟩,qcb⟩⟩⟩) j1 (fun _ h=>nomatch (show(none:Option (Out Unit (S_api_Factor×Int)))=some o1 from h)) ?_;rintro n v8 j1;simp only[zc2]at j1;rw[congrFun hT2 v8];refine zac ?_;try simp only[rnA,Nat.reduceEqDiff,Nat.reduceLT,zbk]
  cases c4:(decide (v8<(p1.length:Int)))
  ·rw[c4,cond_false]at j1;try simp only[rnA]
   replace j1:=qab j1; subst j1;exact lfj hT1 rfl (wm0 [.d,.k,.k] ⟨rfl,⟨MB.cs ⟨qcb,qcb,qcb,qcb⟩,⟨MB.cs ⟨qcb,qcb,qcb,qcb,qcb⟩,qcb⟩⟩⟩)
  rw[c4,cond_true]at j1;obtain⟨x5,g6,j1⟩:=bind_some j1;obtain⟨x7,g8,j1⟩:=bind_some j1;try simp only[rnA,Nat.reduceEqDiff,Nat.reduceLT,zaB (n:=1) (e:=(eI .i64)) rfl g6,zaB (n:=1) (e:=(eI .i64)) rfl g8]
  cases c9:(decide (x5≤x7))
  ·rw[c9,cond_false]at j1;try simp only[rnA,Nat.reduceEqDiff,Nat.reduceLT]
   exact⟨(w64 (v8+1)),j1,by rw[hT2]; exact wm0 [.d,.k,.k] ⟨rfl,⟨MB.cs ⟨qcb,qcb,qcb,qcb⟩,⟨MB.cs ⟨qcb,qcb,qcb,qcb,qcb⟩,qcb⟩⟩⟩⟩
  rw[c9,cond_true]at j1;try simp only[rnA,Nat.reduceEqDiff,Nat.reduceLT,Nat.reduceAdd,Nat.reduceLeDiff]
  replace j1:=qab j1; subst j1;dsimp only at h;replace h:=qab h; subst h;exact zeV.ret rfl (Snp.zdn (.cons (.zaG (.cons (zai (eI .i64)) (.cons (zai (eI .i64)) (.cons (zai (eI .i64)) .nil)))) (.cons (.lit _) .nil)))
 rintro⟨⟩ rfl;dsimp only at h;rw[congrFun hT1 ()];refine zac ?_;try simp only[rnA,Nat.reduceEqDiff,Nat.reduceLT,zbk]
 obtain⟨o3,j3,h⟩:=bind_some h;obtain⟨T3,hT3⟩:=mkT fun a:Unit=>⟨56,[(1,(fzE false (eI .i64) p1)),(4,(.ptr 1 0)),(6,(.ptr 2 0))],[.gone,.cells [zaL,zaL,zaL],.cells [(fzE false (eI .i64) r1.1.factor.vars),(fzE false (eI .i64) r1.1.factor.cards),(fzE false (eI .i64) r1.1.factor.w),(fzE false (eI .i64) r1.1.steps)]]⟩
 refine EvL.jn T3 (fun a=>o3=.go a) ?_ ?_
 ·refine zac ?_;simp only[rnA];obtain⟨T4,hT4⟩:=mkT fun a:Int=>⟨56,[(1,(fzE false (eI .i64) p1)),(4,(.ptr 1 0)),(6,(.ptr 2 0)),(37,(fzE false (eI .i64) p1)),(38,(dI (p1.length:Int))),(39,(dI a))],[.gone,.cells [zaL,zaL,zaL],.cells [(fzE false (eI .i64) r1.1.factor.vars),(fzE false (eI .i64) r1.1.factor.cards),(fzE false (eI .i64) r1.1.factor.w),(fzE false (eI .i64) r1.1.steps)]]⟩
  refine EvL.rounds (α:=Int) T4 (fun n a=>zc0 p1 r1 n a=some o3) ((p1.length:Int) - 0+2:Int).toNat 0 (by rw[hT4]; exact wm0 [.d,.k,.k] ⟨rfl,⟨MB.cs ⟨qcb,qcb,qcb,qcb⟩,⟨MB.cs ⟨qcb,qcb,qcb,qcb,qcb⟩,qcb⟩⟩⟩) j3 (fun _ h=>nomatch (show(none:Option (Out Unit (S_api_Factor×Int)))=some o3 from h)) ?_;rintro n v39 j3;simp only[zc0]at j3;rw[congrFun hT4 v39];refine zac ?_;try simp only[rnA,Nat.reduceEqDiff,Nat.reduceLT]
  cases c10:(decide (v39<(p1.length:Int)))
  ·rw[c10,cond_false]at j3;try simp only[rnA]
   replace j3:=qab j3; subst j3;exact lfj hT3 rfl (wm0 [.d,.k,.k] ⟨rfl,⟨MB.cs ⟨qcb,qcb,qcb,qcb⟩,⟨MB.cs ⟨qcb,qcb,qcb,qcb,qcb⟩,qcb⟩⟩⟩)
  rw[c10,cond_true]at j3;obtain⟨x11,g12,j3⟩:=bind_some j3;obtain⟨r13,g14,j3⟩:=bind_some j3;try simp only[rnA,Nat.reduceEqDiff,Nat.reduceLT,Nat.reduceAdd,Nat.reduceLeDiff,zaB (n:=1) (e:=(eI .i64)) rfl g12]
  refine EvL.fn (zam g14) rfl rfl (.cons (.zaG (.cons (zaa _ _ (fun h=>nomatch h)) (.cons (zaa _ _ (fun h=>nomatch h)) (.cons (zaa _ _ (fun h=>nomatch h)) (.cons (zaa _ _ (fun h=>nomatch h)) .nil))))) (.cons (.lit _) .nil)) ?_;try simp only[rnA,Nat.reduceEqDiff,Nat.reduceLT]
  cases c15:(decide (r13<0))
  ·rw[c15,cond_false]at j3;try simp only[rnA,Nat.reduceEqDiff,Nat.reduceLT]
   exact⟨(w64 (v39+1)),j3,by rw[hT4]; exact wm0 [.d,.k,.k] ⟨rfl,⟨MB.cs ⟨qcb,qcb,qcb,qcb⟩,⟨MB.cs ⟨qcb,qcb,qcb,qcb,qcb⟩,qcb⟩⟩⟩⟩
  rw[c15,cond_true]at j3;try simp only[rnA,Nat.reduceEqDiff,Nat.reduceLT,Nat.reduceAdd,Nat.reduceLeDiff]
  replace j3:=qab j3; subst j3;dsimp only at h;replace h:=qab h; subst h;exact zeV.ret rfl (Snp.zdn (.cons (.zaG (.cons (zai (eI .i64)) (.cons (zai (eI .i64)) (.cons (zai (eI .i64)) .nil)))) (.cons (.lit _) .nil)))
 rintro⟨⟩ rfl;dsimp only at h;rw[congrFun hT3 ()];refine zac ?_;obtain⟨y16,g17,h⟩:=bind_some h;try simp only[rnA,Nat.reduceEqDiff,Nat.reduceLT,Nat.reduceAdd,Nat.reduceLeDiff]
 refine EvL.clone (t:=false) (zs:=p1) g17 rfl rfl ?_;try simp only[rnA,Nat.reduceLT,Nat.reduceAdd]
 refine EvL.zcY (S':=⟨56,[(4,(.ptr 1 0)),(49,(.agg [(fzE false (eI .i64) r1.1.factor.vars),(fzE false (eI .i64) r1.1.factor.cards),(fzE false (eI .i64) r1.1.factor.w),(fzE false (eI .i64) r1.1.steps)])),(51,(fzE true (eI .i64) y16)),(52,(.agg [(.clo 79 [] [])]))],[.gone,.cells [zaL,zaL,zaL]]⟩) (zbl.m0 [.d,.k,.d,.f] rfl (msq (ms rfl ⟨qcb,qcb,qcb,qcb,qcb⟩ (mf rfl (zal (e:=(eI .i64)) (t:=true) rfl rfl (.inl rfl) rfl rfl (fun k h=>nomatch h) (fun h=>by cases h<;>rfl)) (ms rfl ⟨⟨qcb,qcb⟩,qcb⟩ trivial)))) ⟨rfl,⟨MB.cs ⟨qcb,qcb,qcb,qcb⟩,qcb⟩⟩) (zac ?_);obtain⟨r18,g19,h⟩:=bind_some h;try simp only[rnA]
 refine EvL.fnS (zbB g19) rfl rfl (.cons (Mzs.agg (.cons (zad _ _ (fun h=>by cases h<;>contradiction)) (.cons (zad _ _ (fun h=>by cases h<;>contradiction)) (.cons (zad _ _ (fun h=>by cases h<;>contradiction)) (.cons (zad _ _ (fun h=>by cases h<;>contradiction)) .nil))))) (.cons (zad _ _ (fun h=>by cases h<;>contradiction)) (.cons (Mzs.agg (.cons zfN .nil)) .nil))) ⟨⟨(zab _ _),(zab _ _),(zab _ _),(zab _ _),qcb⟩,(zab _ _),⟨⟨qcb,qcb⟩,qcb⟩,qcb⟩ ⟨⟨(zab _ _),(zab _ _),(zab _ _),qcb⟩,qcb,qcb⟩ ?_;try simp only[rnA,Nat.reduceEqDiff,Nat.reduceLT,Nat.reduceAdd,Nat.reduceLeDiff]
 replace h:=qab h; subst h;exact zeV.ret rfl (Snp.zdn (.cons (.zaG (.cons (zaa _ _ (fun h=>nomatch h)) (.cons (zaa _ _ (fun h=>nomatch h)) (.cons (zaa _ _ (fun h=>nomatch h)) .nil)))) (.cons (.lit _) .nil)))
end Go.Dc
