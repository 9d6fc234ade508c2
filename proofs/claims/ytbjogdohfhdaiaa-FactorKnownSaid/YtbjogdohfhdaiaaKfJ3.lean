/-
 What factor_Divide computes. Conditions: none.
-/
import Derived.Test.YtbjogdohfhdaiaaKfJ1
import Derived.Test.YtbjogdohfhdaiaaKfDcS
set_option linter.unusedSimpArgs false
set_option linter.unusedVariables false
set_option maxRecDepth 100000
set_option maxHeartbeats 4000000
namespace Go.Dc
open Go Go.Mx Go.Lx Go.Proofs
def zcq(r4:(S_factor_table×Int))(r1:(S_factor_table×Int)):Nat→Int→Option (Out Unit (S_api_Factor×Int))
 | 0,_=>none
 | n+1,v38=>(
bif (decide (v38<(r4.1.factor.vars.length:Int)))then(
(zbN r4.1.factor.vars v38).bind fun x8=>
(zaj r1.1 x8).bind fun r10=>
bif (decide (r10<0))then(
some (.ret ((S_api_Factor.mk [] [] []),2)))
else(
zcq r4 r1 n (w64 (v38+1))))
else(
some (.go ())))
def zbs(r1:(S_factor_table×Int))(r4:(S_factor_table×Int)):List (Int×Int×(List Int))→(List Int)→Option (Out (List Int) (S_api_Factor×Int))
 | [],l6=>some (.go l6)
 | y24 :: ys,l6=>(
(zbN r1.1.factor.w y24.1).bind fun x25=>
(zbN r4.1.factor.w y24.2.1).bind fun x27=>
((bif (x27 == 0)then(
some (x25 == 0))
else(
some false):Option Bool)).bind fun v87=>
bif v87 then(
zbs r1 r4 ys l6)
else(
((bif (x27 == 0)then(
some true)
else(
(zrL x25 x27).bind fun q32=>
some (!(q32 == 0))):Option Bool)).bind fun v94=>
bif v94 then(
some (.ret ((S_api_Factor.mk [] [] []),4)))
else(
(zqW .i64 x25 x27).bind fun q35=>
(zbN l6 y24.1).bind fun x37=>
(zgc l6 y24.1 q35).bind fun y39=>
zbs r1 r4 ys y39)))
def zaY(p0:S_api_Factor)(p1:S_api_Factor):Option (S_api_Factor×Int):=
(zaE p0).bind fun r1=>
bif (r1.2 == 0)then(
(zaE p1).bind fun r4=>
bif (r4.2 == 0)then(
((zcq r4 r1 ((r4.1.factor.vars.length:Int) - 0+2:Int).toNat 0:Option (Out Unit (S_api_Factor×Int)))).bind fun o=>match o with
| .go _=>(
(zbX r1.1 r4.1).bind fun r13=>
bif r13 then(
(zdD 8 (r1.1.factor.w.length:Int) 0).bind fun y16=>
(zaI r4.1 r1.1.factor.vars).bind fun r18=>
(za1 r1.1.factor.cards r18).bind fun r20=>
(zoy r20.1 r20.2).bind fun u22=>
((zbs r1 r4 u22 y16:Option (Out (List Int) (S_api_Factor×Int)))).bind fun o=>match o with
| .go l6=>(
(zda 8 r1.1.factor.vars).bind fun y41=>
(zda 8 r1.1.factor.cards).bind fun y43=>
some ((S_api_Factor.mk y41 y43 l6),0))
| .ret r=>some r)
else(
some ((S_api_Factor.mk [] [] []),2)))
| .ret r=>some r)
else(
some ((S_api_Factor.mk [] [] []),r4.2)))
else(
some ((S_api_Factor.mk [] [] []),r1.2))
def zen:C:=
 .seq (rg [oW 2 0,
 oW 3 1,
 ⟨some 4,.alloc [(.slice none 0 0),(.slice none 0 0),(.slice none 0 0)],none⟩,
 ⟨some 5,.alloc [(.int .i64 0)],none⟩])
 (.seq (rg [oN 17 3 2,
 oU 18 77 17,
 oM 16 18,
 oX 19 16 0,
 oX 20 16 1,
 ⟨some 6,.alloc [(.slice none 0 0),(.slice none 0 0),(.slice none 0 0),(.slice none 0 0)],none⟩,
 oS 4 6 19,
 oM 7 20])
 (.seq (.seq (rg [oM 21 7,
 oD 22 .neq 21 0])
 (.cond (.s 22) (.seq (rg [⟨some 23,.build [(.slice none 0 0),(.slice none 0 0),(.slice none 0 0)] [],none⟩,
 oM 24 7,
 oS 3 4 23,
 oS 1 5 24])
 (.ret))
 (.skip)))
 (.seq (rg [oN 26 3 3,
 oU 27 77 26,
 oM 25 27,
 oX 28 25 0,
 oX 29 25 1,
 ⟨some 8,.alloc [(.slice none 0 0),(.slice none 0 0),(.slice none 0 0),(.slice none 0 0)],none⟩,
 oS 4 8 28,
 oM 7 29])
 (.seq (.seq (rg [oM 30 7,
 oD 31 .neq 30 0])
 (.cond (.s 31) (.seq (rg [⟨some 32,.build [(.slice none 0 0),(.slice none 0 0),(.slice none 0 0)] [],none⟩,
 oM 33 7,
 oS 3 4 32,
 oS 1 5 33])
 (.ret))
 (.skip)))
 (.seq (.seq (rg [oF 34 0 8,
 oF 35 0 34,
 oL 36 35,
 oE 37 36,
 oK 38 0])
 (.scope (.block 0 (.loop (.seq (rg [oB 39 .lss 38 37])
 (.seq (.cond (.s 39) (.skip)
 (.exit 0))
 (.seq (.block 1 (.seq (rg [oI 40 1 36 38,
 oL 41 40,
 oM 10 41])
 (.seq (rg [oN 42 4 6,
 oM 43 10,
 oV 44 90 42 43,
 oD 45 .lss 44 0])
 (.cond (.s 45) (.seq (rg [⟨some 46,.build [(.slice none 0 0),(.slice none 0 0),(.slice none 0 0)] [],none⟩,
 oS 3 4 46,
 ⟨none,.store 1 (.s 5) (.c (.int .i64 2)),none⟩])
 (.ret))
 (.skip)))))
 (rg [oD 47 .add 38 1,
 oM 38 47]))))))))
 (.seq (.seq (rg [oN 48 4 6,
 oN 49 4 8,
 oV 50 81 48 49,
 ⟨some 51,.un .not (.s 50),none⟩])
 (.cond (.s 51) (.seq (rg [⟨some 52,.build [(.slice none 0 0),(.slice none 0 0),(.slice none 0 0)] [],none⟩,
 oS 3 4 52,
 ⟨none,.store 1 (.s 5) (.c (.int .i64 2)),none⟩])
 (.ret))
 (.skip)))
 (.seq (rg [oF 53 0 6,
 oF 54 2 53,
 oL 55 54,
 oE 56 55,
 ⟨some 57,.mk 1 8 [(.int .i64 0)] (.s 56) (.s 56),none⟩,
 ⟨some 11,.alloc [(.slice none 0 0)],none⟩,
 oS 1 11 57])
 (.seq (.seq (.reg true true [oF 58 0 6,
 oF 59 1 58,
 oL 60 59,
 oN 61 4 8,
 oF 62 0 6,
 oF 63 0 62,
 oL 64 63,
 oV 65 85 61 64,
 oV 66 84 60 65])
 (.block 2 (.zdB (.s 66) [67,68] (.seq (rg [oM 12 67])
 (rg [oM 13 68]))
 (.block 3 (.seq (.reg true false [oF 69 0 6,
 oF 70 2 69,
 oL 71 70,
 oM 72 12,
 oI 73 1 71 72,
 oL 74 73,
 oF 75 0 8,
 oF 76 2 75,
 oL 77 76,
 oM 78 13,
 oI 79 1 77 78,
 oL 80 79,
 oM 14 74,
 oM 15 80])
 (.block 4 (.seq (rg [oM 88 15,
 oD 89 .eql 88 0,
 oM 90 89,
 oMg 91 14 90 true,
 oDg 92 .eql 91 0 90 true,
 ⟨some 93,.pick (.s 90) (.s 92) (.c (.bool false)),none⟩,
 oM 87 93])
 (.cond (.s 87) (.skip)
 (.seq (rg [oM 95 15,
 oD 96 .eql 95 0,
 oM 97 96,
 oMg 98 14 97 false,
 oMg 99 15 97 false,
 ⟨some 100,.bin .rem (.s 98) (.s 99),some (97,false)⟩,
 oDg 101 .neq 100 0 97 false,
 oP 102 97 101,
 oM 94 102])
 (.cond (.s 94) (.seq (rg [⟨some 103,.build [(.slice none 0 0),(.slice none 0 0),(.slice none 0 0)] [],none⟩,
 oS 3 4 103,
 ⟨none,.store 1 (.s 5) (.c (.int .i64 4)),none⟩])
 (.ret))
 (.reg true false [oL 81 11,
 oM 82 12,
 oM 83 14,
 oM 84 15,
 oB 85 .quo 83 84,
 oI 86 1 81 82,
 oS 1 86 85])))))))))))
 (.seq (.reg true false [oF 104 0 6,
 oF 105 0 104,
 oL 106 105,
 oF 108 0 6,
 oF 109 1 108,
 oL 110 109,
 oL 112 11,
 oU 107 25 106,
 oU 111 25 110,
 ⟨some 113,.build [(.slice none 0 0),(.slice none 0 0),(.slice none 0 0)] [(0,1,(.s 107)),(1,1,(.s 111)),(2,1,(.s 112))],none⟩,
 oS 3 4 113,
 ⟨none,.store 1 (.s 5) (.c (.int .i64 0)),none⟩])
 (.ret))))))))))
theorem zfO:zgs mC 37=some (114,zen,[.cell 4 (some 3),.cell 5 none],false):=zbj (by kernel_rfl)
theorem zbi{p0:S_api_Factor}{p1:S_api_Factor}{r:(S_api_Factor×Int)}(h:zaY p0 p1=some r):Lx.Fn mC 37 [(.agg [(fzE false (eI .i64) p0.vars),(fzE false (eI .i64) p0.cards),(fzE false (eI .i64) p0.w)]),(.agg [(fzE false (eI .i64) p1.vars),(fzE false (eI .i64) p1.cards),(fzE false (eI .i64) p1.w)])] (.tup [(.agg [(fzE true (eI .i64) r.1.vars),(fzE true (eI .i64) r.1.cards),(fzE true (eI .i64) r.1.w)]),(dI r.2)]):=by
 refine Fn.of zfO (zbc rfl) (qac rfl) ?_;unfold zaY at h;simp only[zen,zkx];refine zac ?_;obtain⟨r1,g2,h⟩:=bind_some h;try simp only[rnA,Nat.reduceEqDiff,Nat.reduceLT,Nat.reduceAdd,Nat.reduceLeDiff,reduceCtorEq]
 refine EvL.fnS (zaX g2) rfl rfl (.cons (Mzs.agg (.cons (zad _ _ (fun h=>by cases h<;>contradiction)) (.cons (zad _ _ (fun h=>by cases h<;>contradiction)) (.cons (zad _ _ (fun h=>by cases h<;>contradiction)) .nil)))) .nil) ⟨⟨(zab _ _),(zab _ _),(zab _ _),qcb⟩,qcb⟩ ⟨⟨(zab _ _),(zab _ _),(zab _ _),(zab _ _),qcb⟩,qcb,qcb⟩ ?_;try simp only[rnA,Nat.reduceEqDiff,Nat.reduceLT,Nat.reduceAdd,Nat.reduceLeDiff,reduceCtorEq]
 cases c3:(r1.2 == 0)
 ·rw[c3,cond_false]at h;try simp only[rnA,Nat.reduceEqDiff,Nat.reduceLT,Nat.reduceAdd,Nat.reduceLeDiff,reduceCtorEq]
  replace h:=qab h; subst h;exact zcV.ret rfl (Snp.zdn (.cons (.zaG (.cons (zai (eI .i64)) (.cons (zai (eI .i64)) (.cons (zai (eI .i64)) .nil)))) (.cons (.lit _) .nil)))
 rw[c3,cond_true]at h;obtain⟨r4,g5,h⟩:=bind_some h;try simp only[rnA,Nat.reduceEqDiff,Nat.reduceLT,Nat.reduceAdd,Nat.reduceLeDiff,reduceCtorEq]
 refine EvL.fnS (zaX g5) rfl rfl (.cons (Mzs.agg (.cons (zad _ _ (fun h=>by cases h<;>contradiction)) (.cons (zad _ _ (fun h=>by cases h<;>contradiction)) (.cons (zad _ _ (fun h=>by cases h<;>contradiction)) .nil)))) .nil) ⟨⟨(zab _ _),(zab _ _),(zab _ _),qcb⟩,qcb⟩ ⟨⟨(zab _ _),(zab _ _),(zab _ _),(zab _ _),qcb⟩,qcb,qcb⟩ ?_;try simp only[rnA,Nat.reduceEqDiff,Nat.reduceLT,Nat.reduceAdd,Nat.reduceLeDiff,reduceCtorEq]
 cases c6:(r4.2 == 0)
 ·rw[c6,cond_false]at h;try simp only[rnA,Nat.reduceEqDiff,Nat.reduceLT,Nat.reduceAdd,Nat.reduceLeDiff,reduceCtorEq]
  replace h:=qab h; subst h;exact zcV.ret rfl (Snp.zdn (.cons (.zaG (.cons (zai (eI .i64)) (.cons (zai (eI .i64)) (.cons (zai (eI .i64)) .nil)))) (.cons (.lit _) .nil)))
 rw[c6,cond_true]at h;try simp only[rnA,Nat.reduceEqDiff,Nat.reduceLT,reduceCtorEq,zbk]
 obtain⟨o1,j1,h⟩:=bind_some h;obtain⟨T1,hT1⟩:=mkT fun a:Unit=>⟨114,[(4,(.ptr 2 0)),(5,(.ptr 3 0)),(6,(.ptr 4 0)),(8,(.ptr 5 0))],[.gone,.gone,.cells [zaL,zaL,zaL],.cells [(dI 0)],.cells [(fzE false (eI .i64) r1.1.factor.vars),(fzE false (eI .i64) r1.1.factor.cards),(fzE false (eI .i64) r1.1.factor.w),(fzE false (eI .i64) r1.1.steps)],.cells [(fzE false (eI .i64) r4.1.factor.vars),(fzE false (eI .i64) r4.1.factor.cards),(fzE false (eI .i64) r4.1.factor.w),(fzE false (eI .i64) r4.1.steps)]]⟩
 refine EvL.jn T1 (fun a=>o1=.go a) ?_ ?_
 ·refine zac ?_;simp only[rnA];obtain⟨T2,hT2⟩:=mkT fun a:Int=>⟨114,[(4,(.ptr 2 0)),(5,(.ptr 3 0)),(6,(.ptr 4 0)),(8,(.ptr 5 0)),(36,(fzE false (eI .i64) r4.1.factor.vars)),(37,(dI (r4.1.factor.vars.length:Int))),(38,(dI a))],[.gone,.gone,.cells [zaL,zaL,zaL],.cells [(dI 0)],.cells [(fzE false (eI .i64) r1.1.factor.vars),(fzE false (eI .i64) r1.1.factor.cards),(fzE false (eI .i64) r1.1.factor.w),(fzE false (eI .i64) r1.1.steps)],.cells [(fzE false (eI .i64) r4.1.factor.vars),(fzE false (eI .i64) r4.1.factor.cards),(fzE false (eI .i64) r4.1.factor.w),(fzE false (eI .i64) r4.1.steps)]]⟩
  refine EvL.rounds (α:=Int) T2 (fun n a=>zcq r4 r1 n a=some o1) ((r4.1.factor.vars.length:Int) - 0+2:Int).toNat 0 (by rw[hT2]; exact wm0 [.d,.d,.k,.k,.k,.k] ⟨rfl,⟨rfl,⟨MB.cs ⟨qcb,qcb,qcb,qcb⟩,⟨MB.cs ⟨qcb,qcb⟩,⟨MB.cs ⟨qcb,qcb,qcb,qcb,qcb⟩,⟨MB.cs ⟨qcb,qcb,qcb,qcb,qcb⟩,qcb⟩⟩⟩⟩⟩⟩) j1 (fun _ h=>nomatch (show(none:Option (Out Unit (S_api_Factor×Int)))=some o1 from h)) ?_;rintro n v38 j1;simp only[zcq]at j1;rw[congrFun hT2 v38];refine zac ?_;try simp only[rnA,Nat.reduceEqDiff,Nat.reduceLT]
  cases c7:(decide (v38<(r4.1.factor.vars.length:Int)))
  ·rw[c7,cond_false]at j1;try simp only[rnA]
   replace j1:=qab j1; subst j1;exact lfj hT1 rfl (wm0 [.d,.d,.k,.k,.k,.k] ⟨rfl,⟨rfl,⟨MB.cs ⟨qcb,qcb,qcb,qcb⟩,⟨MB.cs ⟨qcb,qcb⟩,⟨MB.cs ⟨qcb,qcb,qcb,qcb,qcb⟩,⟨MB.cs ⟨qcb,qcb,qcb,qcb,qcb⟩,qcb⟩⟩⟩⟩⟩⟩)
  rw[c7,cond_true]at j1;obtain⟨x8,g9,j1⟩:=bind_some j1;obtain⟨r10,g11,j1⟩:=bind_some j1;try simp only[rnA,Nat.reduceEqDiff,Nat.reduceLT,Nat.reduceAdd,Nat.reduceLeDiff,zaB (n:=1) (e:=(eI .i64)) rfl g9]
  refine EvL.fn (zam g11) rfl rfl (.cons (.zaG (.cons (zaa _ _ (fun h=>nomatch h)) (.cons (zaa _ _ (fun h=>nomatch h)) (.cons (zaa _ _ (fun h=>nomatch h)) (.cons (zaa _ _ (fun h=>nomatch h)) .nil))))) (.cons (.lit _) .nil)) ?_;try simp only[rnA,Nat.reduceEqDiff,Nat.reduceLT]
  cases c12:(decide (r10<0))
  ·rw[c12,cond_false]at j1;try simp only[rnA,Nat.reduceEqDiff,Nat.reduceLT]
   exact⟨(w64 (v38+1)),j1,by rw[hT2]; exact wm0 [.d,.d,.k,.k,.k,.k] ⟨rfl,⟨rfl,⟨MB.cs ⟨qcb,qcb,qcb,qcb⟩,⟨MB.cs ⟨qcb,qcb⟩,⟨MB.cs ⟨qcb,qcb,qcb,qcb,qcb⟩,⟨MB.cs ⟨qcb,qcb,qcb,qcb,qcb⟩,qcb⟩⟩⟩⟩⟩⟩⟩
  rw[c12,cond_true]at j1;try simp only[rnA,Nat.reduceEqDiff,Nat.reduceLT,Nat.reduceAdd,Nat.reduceLeDiff]
  replace j1:=qab j1; subst j1;dsimp only at h;replace h:=qab h; subst h;exact zcV.ret rfl (Snp.zdn (.cons (.zaG (.cons (zai (eI .i64)) (.cons (zai (eI .i64)) (.cons (zai (eI .i64)) .nil)))) (.cons (.lit _) .nil)))
 rintro⟨⟩ rfl;dsimp only at h;rw[congrFun hT1 ()];refine zac ?_;obtain⟨r13,g14,h⟩:=bind_some h;try simp only[rnA,Nat.reduceEqDiff,Nat.reduceLT,Nat.reduceAdd,Nat.reduceLeDiff]
 refine EvL.fn (zeg g14) rfl rfl (.cons (.zaG (.cons (zaa _ _ (fun h=>nomatch h)) (.cons (zaa _ _ (fun h=>nomatch h)) (.cons (zaa _ _ (fun h=>nomatch h)) (.cons (zaa _ _ (fun h=>nomatch h)) .nil))))) (.cons (.zaG (.cons (zaa _ _ (fun h=>nomatch h)) (.cons (zaa _ _ (fun h=>nomatch h)) (.cons (zaa _ _ (fun h=>nomatch h)) (.cons (zaa _ _ (fun h=>nomatch h)) .nil))))) .nil)) ?_;try simp only[rnA,Nat.reduceEqDiff,Nat.reduceLT]
 cases c15:r13
 ·rw[c15,cond_false]at h;try simp only[rnA,Nat.reduceEqDiff,Nat.reduceLT,Nat.reduceAdd,Nat.reduceLeDiff]
  replace h:=qab h; subst h;exact zcV.ret rfl (Snp.zdn (.cons (.zaG (.cons (zai (eI .i64)) (.cons (zai (eI .i64)) (.cons (zai (eI .i64)) .nil)))) (.cons (.lit _) .nil)))
 rw[c15,cond_true]at h;obtain⟨y16,g17,h⟩:=bind_some h;obtain⟨r18,g19,h⟩:=bind_some h;try simp only[rnA,Nat.reduceEqDiff,Nat.reduceLT,Nat.reduceAdd,Nat.reduceLeDiff,zbk,(zau g17).1.1,(zau g17).1.2,qbn,(show List.replicate (Int.toNat (r1.1.factor.w.length:Int)) [(dI 0)]=y16.map ((eI .i64).c true)from zbw g17 ((eI .i64).c true))]
 refine EvL.fn (zby g19) rfl rfl (.cons (.zaG (.cons (zaa _ _ (fun h=>nomatch h)) (.cons (zaa _ _ (fun h=>nomatch h)) (.cons (zaa _ _ (fun h=>nomatch h)) (.cons (zaa _ _ (fun h=>nomatch h)) .nil))))) (.cons (zaa _ _ (fun h=>nomatch h)) .nil)) ?_;obtain⟨r20,g21,h⟩:=bind_some h;try simp only[rnA,Nat.reduceLT]
 refine EvL.fnS (zbm g21) rfl rfl (.cons (zad _ _ (fun h=>by cases h<;>contradiction)) (.cons (zad _ _ (fun h=>by cases h<;>contradiction)) .nil)) ⟨(zab _ _),(zab _ _),qcb⟩ ⟨qcb,⟨⟨rfl,zab _ _,qcb⟩,⟨rfl,zab _ _,qcb⟩,qcb⟩⟩ ?_;try simp only[rnA,Nat.reduceLT]
 obtain⟨u22,g23,h⟩:=bind_some h;obtain⟨o7,j7,h⟩:=bind_some h;obtain⟨T7,hT7⟩:∃ T:(List Int)→List LB,T=(fun a=>[.gone,.gone,.cells [zaL,zaL,zaL],.cells [(dI 0)],.cells [(fzE false (eI .i64) r1.1.factor.vars),(fzE false (eI .i64) r1.1.factor.cards),(fzE false (eI .i64) r1.1.factor.w),(fzE false (eI .i64) r1.1.steps)],.cells [(fzE false (eI .i64) r4.1.factor.vars),(fzE false (eI .i64) r4.1.factor.cards),(fzE false (eI .i64) r4.1.factor.w),(fzE false (eI .i64) r4.1.steps)],.els 1 (a.map ((eI .i64).c true)),.cells [(.sl 6 0 1 (Int.toNat (r1.1.factor.w.length:Int)) (some (Int.toNat (r1.1.factor.w.length:Int))) (Int.toNat (r1.1.factor.w.length:Int)))]]):=⟨_,rfl⟩;refine EvL.zcY (S':=⟨114,[(4,(.ptr 2 0)),(5,(.ptr 3 0)),(6,(.ptr 4 0)),(8,(.ptr 5 0)),(11,(.ptr 7 0)),(66,(.clo 120 [] [(.fptr false ((eL (eI .i64)).c false r20.1)),(.fptr false ((eL (eI .i64)).c false r20.2))]))],T7 y16⟩) (by rw[hT7]; exact wm0 [.k,.k,.k,.k,.k,.k,.k,.k] ⟨MB.same trivial,⟨MB.same trivial,⟨MB.cs ⟨qcb,qcb,qcb,qcb⟩,⟨MB.cs ⟨qcb,qcb⟩,⟨MB.cs ⟨qcb,qcb,qcb,qcb,qcb⟩,⟨MB.cs ⟨qcb,qcb,qcb,qcb,qcb⟩,⟨MB.es (eI .i64) true y16,⟨MB.cs ⟨rfl,qcb⟩,qcb⟩⟩⟩⟩⟩⟩⟩⟩) ?_;refine EvL.zhU (n0:=8) (zbf g23) rfl (bm:=.block 3 (.seq (.reg true false [⟨some 69,.fld 0 (.s 6),none⟩,⟨some 70,.fld 2 (.s 69),none⟩,⟨some 71,.load none (.s 70),none⟩,⟨some 72,.mov (.s 12),none⟩,⟨some 73,.idxS 1 (.s 71) (.s 72),none⟩,⟨some 74,.load none (.s 73),none⟩,⟨some 75,.fld 0 (.s 8),none⟩,⟨some 76,.fld 2 (.s 75),none⟩,⟨some 77,.load none (.s 76),none⟩,⟨some 78,.mov (.s 13),none⟩,⟨some 79,.idxS 1 (.s 77) (.s 78),none⟩,⟨some 80,.load none (.s 79),none⟩,⟨some 14,.mov (.s 74),none⟩,⟨some 15,.mov (.s 80),none⟩]) (.block 4 (.seq (.scope (.reg false false [⟨some 88,.mov (.s 15),none⟩,⟨some 89,.bin .eql (.s 88) (.c (.int .i64 0)),none⟩,⟨some 90,.mov (.s 89),none⟩,⟨some 91,.mov (.s 14),some (90,true)⟩,⟨some 92,.bin .eql (.s 91) (.c (.int .i64 0)),some (90,true)⟩,⟨some 93,.pick (.s 90) (.s 92) (.c (.bool false)),none⟩,⟨some 87,.mov (.s 93),none⟩])) (.cond (.s 87) (.skip) (.seq (.scope (.reg false false [⟨some 95,.mov (.s 15),none⟩,⟨some 96,.bin .eql (.s 95) (.c (.int .i64 0)),none⟩,⟨some 97,.mov (.s 96),none⟩,⟨some 98,.mov (.s 14),some (97,false)⟩,⟨some 99,.mov (.s 15),some (97,false)⟩,⟨some 100,.bin .rem (.s 98) (.s 99),some (97,false)⟩,⟨some 101,.bin .neq (.s 100) (.c (.int .i64 0)),some (97,false)⟩,⟨some 102,.pick (.s 97) (.c (.bool true)) (.s 101),none⟩,⟨some 94,.mov (.s 102),none⟩])) (.cond (.s 94) (.seq (.reg false false [⟨some 103,.build [(.slice none 0 0),(.slice none 0 0),(.slice none 0 0)] [],none⟩,⟨none,.store 3 (.s 4) (.s 103),none⟩,⟨none,.store 1 (.s 5) (.c (.int .i64 4)),none⟩]) (.ret)) (.reg true false [⟨some 81,.load none (.s 11),none⟩,⟨some 82,.mov (.s 12),none⟩,⟨some 83,.mov (.s 14),none⟩,⟨some 84,.mov (.s 15),none⟩,⟨some 85,.bin .quo (.s 83) (.s 84),none⟩,⟨some 86,.idxS 1 (.s 81) (.s 82),none⟩,⟨none,.store 1 (.s 86) (.s 85),none⟩])))))))) rfl T7 (fun i a=>zbs r1 r4 (u22.drop i) a=some o7∧a.length=(Int.toNat (r1.1.factor.w.length:Int))) (fun x L1=>match x with | .normal=>∃ a,o7=.go a∧a.length=(Int.toNat (r1.1.factor.w.length:Int))∧L1=T7 a | .ret=>L1.length=8∧zd8 (8+1) L1∧(zcV [.cell 4 (some 3),.cell 5 none] ((.tup [(.agg [(fzE true (eI .i64) r.1.vars),(fzE true (eI .i64) r.1.cards),(fzE true (eI .i64) r.1.w)]),(dI r.2)]))) .ret ⟨114,[(4,(.ptr 2 0)),(5,(.ptr 3 0)),(6,(.ptr 4 0)),(8,(.ptr 5 0)),(11,(.ptr 7 0)),(66,(.clo 120 [] [(.fptr false ((eL (eI .i64)).c false r20.1)),(.fptr false ((eL (eI .i64)).c false r20.2))]))],L1 ++ [.lost]⟩| _=>False) y16 ?_ (qaU _) ?_ ?_ ?_ (fun d L1 hx=>hx.elim) ?_ ?_ ?_ ?_ ?_ ?_
 ·intro a; rw[hT7]; rfl
 ·exact⟨(qac rfl),(qac rfl),(qac rfl),(qac rfl),(qac rfl),⟨qcb,⟨qcb,qcb,qcb⟩⟩,qcb⟩
 ·intro a; rw[hT7]; exact⟨qcb,qcb,⟨qcb,qcb,qcb,qcb⟩,⟨qcb,qcb⟩,⟨qcb,qcb,qcb,qcb,qcb⟩,⟨qcb,qcb,qcb,qcb,qcb⟩,(zcj (eI .i64) _ _ _),⟨(qac rfl),qcb⟩,qcb⟩
 ·intro x L1 hx;cases x with
  | normal=>obtain⟨a,_,_,rfl⟩:=hx; exact⟨by rw[hT7]; rfl,by rw[hT7]; exact⟨qcb,qcb,⟨qcb,qcb,qcb,qcb⟩,⟨qcb,qcb⟩,⟨qcb,qcb,qcb,qcb,qcb⟩,⟨qcb,qcb,qcb,qcb,qcb⟩,(zcj (eI .i64) _ _ _),⟨(qac rfl),qcb⟩,qcb⟩⟩
  | ret=>exact⟨hx.1,hx.2.1⟩
  | exit id=>exact hx.elim
  | panic d=>exact hx.elim
 ·exact⟨j7,zaC g17⟩
 ·rintro i l6 y24 args G lpF hy ⟨hi7,el6⟩ ⟨rfl,rfl⟩ hkin;rw[zew hy]at hi7;simp only[zbs]at hi7;refine⟨_,_,rfl,rfl,?_⟩;rw[congrFun hT7 l6];refine zac ?_;obtain⟨x25,g26,hi7⟩:=bind_some hi7;obtain⟨x27,g28,hi7⟩:=bind_some hi7;try simp only[rnA,Nat.reduceEqDiff,Nat.reduceLT,Nat.reduceAdd,zaB (n:=1) (e:=(eI .i64)) rfl g26,zaB (n:=1) (e:=(eI .i64)) rfl g28]
  obtain⟨o8,j8,hi7⟩:=bind_some hi7;obtain⟨T8,hT8⟩:=mkT fun a:Bool=>⟨114,[(4,(.ptr 2 0)),(5,(.ptr 3 0)),(11,(.ptr 7 0)),(12,(dI y24.1)),(14,(dI x25)),(15,(dI x27)),(87,(dB a))],[.gone,.gone,.cells [zaL,zaL,zaL],.cells [(dI 0)],.cells [(fzE false (eI .i64) r1.1.factor.vars),(fzE false (eI .i64) r1.1.factor.cards),(fzE false (eI .i64) r1.1.factor.w),(fzE false (eI .i64) r1.1.steps)],.cells [(fzE false (eI .i64) r4.1.factor.vars),(fzE false (eI .i64) r4.1.factor.cards),(fzE false (eI .i64) r4.1.factor.w),(fzE false (eI .i64) r4.1.steps)],.els 1 (l6.map ((eI .i64).c true)),.cells [(.sl 6 0 1 (Int.toNat (r1.1.factor.w.length:Int)) (some (Int.toNat (r1.1.factor.w.length:Int))) (Int.toNat (r1.1.factor.w.length:Int)))],lpF,.els 1 (y24.2.2.map ((eI .i64).c true))]⟩
  refine EvL.jn T8 (fun a=>a=o8) ?_ ?_
  ·refine zac ?_;try simp only[rnA,Nat.reduceEqDiff,Nat.reduceLT]
   cases c29:(x27 == 0)
   ·rw[c29,cond_false]at j8;try simp only[rnA,Nat.reduceEqDiff,Nat.reduceLT]
    replace j8:=qab j8; subst j8;exact⟨_,rfl,by rw[hT8]; exact zbl.mK (k0:=10) [.k,.k,.k,.k,.k,.k,.k,.k,.k,.k] rfl rfl (msq (msq (msq (msq (msq (msq (msq trivial))))))) ⟨MB.same trivial,⟨MB.same trivial,⟨MB.cs ⟨qcb,qcb,qcb,qcb⟩,⟨MB.cs ⟨qcb,qcb⟩,⟨MB.cs ⟨qcb,qcb,qcb,qcb,qcb⟩,⟨MB.cs ⟨qcb,qcb,qcb,qcb,qcb⟩,⟨MB.es (eI .i64) true l6,⟨MB.cs ⟨rfl,qcb⟩,⟨.same (hkin _ (by decide)),⟨MB.es (eI .i64) true y24.2.2,qcb⟩⟩⟩⟩⟩⟩⟩⟩⟩⟩⟩
   rw[c29,cond_true]at j8;try simp only[rnA,Nat.reduceEqDiff,Nat.reduceLT]
   replace j8:=qab j8; subst j8;exact⟨_,rfl,by rw[hT8]; exact zbl.mK (k0:=10) [.k,.k,.k,.k,.k,.k,.k,.k,.k,.k] rfl rfl (msq (msq (msq (msq (msq (msq (msq trivial))))))) ⟨MB.same trivial,⟨MB.same trivial,⟨MB.cs ⟨qcb,qcb,qcb,qcb⟩,⟨MB.cs ⟨qcb,qcb⟩,⟨MB.cs ⟨qcb,qcb,qcb,qcb,qcb⟩,⟨MB.cs ⟨qcb,qcb,qcb,qcb,qcb⟩,⟨MB.es (eI .i64) true l6,⟨MB.cs ⟨rfl,qcb⟩,⟨.same (hkin _ (by decide)),⟨MB.es (eI .i64) true y24.2.2,qcb⟩⟩⟩⟩⟩⟩⟩⟩⟩⟩⟩
  rintro v87 rfl;rw[congrFun hT8 v87];refine zac ?_;try simp only[rnA,Nat.reduceEqDiff]
  cases c30:v87
  ·rw[c30,cond_false]at hi7;try simp only[rnA]
   obtain⟨o9,j9,hi7⟩:=bind_some hi7;obtain⟨T9,hT9⟩:=mkT fun a:Bool=>⟨114,[(4,(.ptr 2 0)),(5,(.ptr 3 0)),(11,(.ptr 7 0)),(12,(dI y24.1)),(14,(dI x25)),(15,(dI x27)),(94,(dB a))],[.gone,.gone,.cells [zaL,zaL,zaL],.cells [(dI 0)],.cells [(fzE false (eI .i64) r1.1.factor.vars),(fzE false (eI .i64) r1.1.factor.cards),(fzE false (eI .i64) r1.1.factor.w),(fzE false (eI .i64) r1.1.steps)],.cells [(fzE false (eI .i64) r4.1.factor.vars),(fzE false (eI .i64) r4.1.factor.cards),(fzE false (eI .i64) r4.1.factor.w),(fzE false (eI .i64) r4.1.steps)],.els 1 (l6.map ((eI .i64).c true)),.cells [(.sl 6 0 1 (Int.toNat (r1.1.factor.w.length:Int)) (some (Int.toNat (r1.1.factor.w.length:Int))) (Int.toNat (r1.1.factor.w.length:Int)))],lpF,.els 1 (y24.2.2.map ((eI .i64).c true))]⟩
   refine EvL.jn T9 (fun a=>a=o9) ?_ ?_
   ·refine zac ?_;try simp only[rnA,Nat.reduceEqDiff,Nat.reduceLT]
    cases c31:(x27 == 0)
    ·rw[c31,cond_false]at j9;obtain⟨q32,g33,j9⟩:=bind_some j9;try simp only[rnA,Nat.reduceEqDiff,Nat.reduceLT,zmT g33,zqS g33]
     replace j9:=qab j9; subst j9;exact⟨_,rfl,by rw[hT9]; exact zbl.mK (k0:=10) [.k,.k,.k,.k,.k,.k,.k,.k,.k,.k] rfl rfl (msq (msq (msq (msq (msq (msq (msq trivial))))))) ⟨MB.same trivial,⟨MB.same trivial,⟨MB.cs ⟨qcb,qcb,qcb,qcb⟩,⟨MB.cs ⟨qcb,qcb⟩,⟨MB.cs ⟨qcb,qcb,qcb,qcb,qcb⟩,⟨MB.cs ⟨qcb,qcb,qcb,qcb,qcb⟩,⟨MB.es (eI .i64) true l6,⟨MB.cs ⟨rfl,qcb⟩,⟨.same (hkin _ (by decide)),⟨MB.es (eI .i64) true y24.2.2,qcb⟩⟩⟩⟩⟩⟩⟩⟩⟩⟩⟩
    rw[c31,cond_true]at j9;try simp only[rnA,Nat.reduceEqDiff,Nat.reduceLT]
    replace j9:=qab j9; subst j9;exact⟨_,rfl,by rw[hT9]; exact zbl.mK (k0:=10) [.k,.k,.k,.k,.k,.k,.k,.k,.k,.k] rfl rfl (msq (msq (msq (msq (msq (msq (msq trivial))))))) ⟨MB.same trivial,⟨MB.same trivial,⟨MB.cs ⟨qcb,qcb,qcb,qcb⟩,⟨MB.cs ⟨qcb,qcb⟩,⟨MB.cs ⟨qcb,qcb,qcb,qcb,qcb⟩,⟨MB.cs ⟨qcb,qcb,qcb,qcb,qcb⟩,⟨MB.es (eI .i64) true l6,⟨MB.cs ⟨rfl,qcb⟩,⟨.same (hkin _ (by decide)),⟨MB.es (eI .i64) true y24.2.2,qcb⟩⟩⟩⟩⟩⟩⟩⟩⟩⟩⟩
   rintro v94 rfl;rw[congrFun hT9 v94];refine zac ?_;try simp only[rnA,Nat.reduceEqDiff]
   cases c34:v94
   ·rw[c34,cond_false]at hi7;obtain⟨q35,g36,hi7⟩:=bind_some hi7;obtain⟨x37,g38,hi7⟩:=bind_some hi7;obtain⟨y39,g40,hi7⟩:=bind_some hi7;try simp only[rnA,Nat.reduceEqDiff,Nat.reduceLT,Nat.reduceLeDiff,zkz g36,zn9 g36,el6,zbq g38,(show y24.1<(((Int.toNat (r1.1.factor.w.length:Int)):Nat):Int)from el6 ▸ zbr g38),zaQ g38 ((eI .i64).c true),(show(l6.map ((eI .i64).c true)).set y24.1.toNat [(dI q35)]=y39.map ((eI .i64).c true)from zbE g40 ((eI .i64).c true))]
    exact⟨T7 y39,by rw[hT7]; rfl,by rw[hT7]; exact zbl.mK [.k,.k,.k,.k,.k,.k,.k,.k,.k,.k] rfl rfl qcb ⟨MB.same trivial,⟨MB.same trivial,⟨MB.cs ⟨qcb,qcb,qcb,qcb⟩,⟨MB.cs ⟨qcb,qcb⟩,⟨MB.cs ⟨qcb,qcb,qcb,qcb,qcb⟩,⟨MB.cs ⟨qcb,qcb,qcb,qcb,qcb⟩,⟨MB.es (eI .i64) true y39,⟨MB.cs ⟨rfl,qcb⟩,⟨.same (hkin _ (by decide)),⟨MB.same (zcT _ _ _ _),qcb⟩⟩⟩⟩⟩⟩⟩⟩⟩⟩,y39,⟨hi7,(zbd g40).trans el6⟩,rfl⟩
   rw[c34,cond_true]at hi7;try simp only[rnA,Nat.reduceEqDiff,Nat.reduceLT,Nat.reduceAdd,Nat.reduceLeDiff]
   replace hi7:=qab hi7; subst hi7;dsimp only at h;replace h:=qab h; subst h;exact⟨[.gone,.gone,.cells [zaL,zaL,zaL],.cells [(dI 4)],.cells [(fzE false (eI .i64) r1.1.factor.vars),(fzE false (eI .i64) r1.1.factor.cards),(fzE false (eI .i64) r1.1.factor.w),(fzE false (eI .i64) r1.1.steps)],.cells [(fzE false (eI .i64) r4.1.factor.vars),(fzE false (eI .i64) r4.1.factor.cards),(fzE false (eI .i64) r4.1.factor.w),(fzE false (eI .i64) r4.1.steps)],.els 1 (l6.map ((eI .i64).c true)),.cells [(.sl 6 0 1 (Int.toNat (r1.1.factor.w.length:Int)) (some (Int.toNat (r1.1.factor.w.length:Int))) (Int.toNat (r1.1.factor.w.length:Int)))]],rfl,zbl.mK [.k,.k,.k,.k,.k,.k,.k,.k,.k,.k] rfl rfl qcb ⟨MB.same trivial,⟨MB.same trivial,⟨MB.cs ⟨qcb,qcb,qcb,qcb⟩,⟨MB.cs ⟨qcb,qcb⟩,⟨MB.cs ⟨qcb,qcb,qcb,qcb,qcb⟩,⟨MB.cs ⟨qcb,qcb,qcb,qcb,qcb⟩,⟨MB.es (eI .i64) true l6,⟨MB.cs ⟨rfl,qcb⟩,⟨.same (hkin _ (by decide)),⟨MB.same (zcT _ _ _ _),qcb⟩⟩⟩⟩⟩⟩⟩⟩⟩⟩,rfl,⟨qcb,qcb,⟨qcb,qcb,qcb,qcb⟩,⟨qcb,qcb⟩,⟨qcb,qcb,qcb,qcb,qcb⟩,⟨qcb,qcb,qcb,qcb,qcb⟩,(zcj (eI .i64) _ _ _),⟨(qac rfl),qcb⟩,qcb⟩,zcV.ret rfl (Snp.zdn (.cons (.zaG (.cons (zai (eI .i64)) (.cons (zai (eI .i64)) (.cons (zai (eI .i64)) .nil)))) (.cons (.lit _) .nil)))⟩
  rw[c30,cond_true]at hi7;try simp only[rnA]
  exact⟨T7 l6,by rw[hT7]; rfl,by rw[hT7]; exact zbl.mK [.k,.k,.k,.k,.k,.k,.k,.k,.k,.k] rfl rfl qcb ⟨MB.same trivial,⟨MB.same trivial,⟨MB.cs ⟨qcb,qcb,qcb,qcb⟩,⟨MB.cs ⟨qcb,qcb⟩,⟨MB.cs ⟨qcb,qcb,qcb,qcb,qcb⟩,⟨MB.cs ⟨qcb,qcb,qcb,qcb,qcb⟩,⟨MB.es (eI .i64) true l6,⟨MB.cs ⟨rfl,qcb⟩,⟨.same (hkin _ (by decide)),⟨MB.same (zcT _ _ _ _),qcb⟩⟩⟩⟩⟩⟩⟩⟩⟩⟩,l6,⟨hi7,el6⟩,rfl⟩
 ·rintro l6 ⟨hi7,el6⟩;rw[qaY]at hi7;simp only[zbs]at hi7;exact⟨l6,(qab hi7).symm,el6,rfl⟩
 ·rintro _ ⟨l6,oeq,el6,rfl⟩;have oeq2:=oeq.symm;subst oeq2;dsimp only at h;rw[congrFun hT7 l6];refine zac ?_;obtain⟨y41,g42,h⟩:=bind_some h;try simp only[rnA,Nat.reduceEqDiff,Nat.reduceLT]
  refine EvL.clone (t:=false) (zs:=r1.1.factor.vars) g42 rfl rfl ?_;obtain⟨y43,g44,h⟩:=bind_some h;try simp only[rnA,Nat.reduceLT,Nat.reduceAdd]
  refine EvL.clone (t:=false) (zs:=r1.1.factor.cards) g44 rfl rfl ?_;try simp only[rnA,Nat.reduceEqDiff,Nat.reduceLT,Nat.reduceAdd,Nat.reduceLeDiff]
  replace h:=qab h; subst h;exact zcV.ret rfl (Snp.zdn (.cons (.zaG (.cons (zbh (e:=(eI .i64)) (t:=true) rfl (.inl rfl) rfl rfl (fun k h=>nomatch h) (fun _=>rfl)) (.cons (zbh (e:=(eI .i64)) (t:=true) rfl (.inl rfl) rfl rfl (fun k h=>nomatch h) (fun _=>rfl)) (.cons (zbh (e:=(eI .i64)) (t:=true) rfl (.inl rfl) (el6).symm (el6).symm (fun k h=>by cases h; exact qaf _) (fun _=>rfl)) .nil)))) (.cons (.lit _) .nil)))
 ·intro id L1 hx; exact hx.elim
 intro L1 hx; exact hx.2.2
def zcr(p0:(List Int))(p1:(List Int)):Nat→Int→Option (Out Unit Bool)
 | 0,_=>none
 | n+1,v5=>(
bif (decide (v5<(p0.length:Int)))then(
(zbN p0 v5).bind fun x3=>
(zbN p1 v5).bind fun x5=>
bif (x3 == x5)then(
zcr p0 p1 n (w64 (v5+1)))
else(
some (.ret false)))
else(
some (.go ())))
def zcU(p0:(List Int))(p1:(List Int)):Option Bool:=
bif ((p0.length:Int)==(p1.length:Int))then(
((zcr p0 p1 ((p0.length:Int) - 0+2:Int).toNat 0:Option (Out Unit Bool))).bind fun o=>match o with
| .go _=>(
some true)
| .ret r=>some r)
else(
some false)
theorem zeX{p0:(List Int)}{p1:(List Int)}{r:Bool}(h:zcU p0 p1=some r):Lx.Fn mC 92 [(fzE false (eI .i64) p0),(fzE false (eI .i64) p1)] (dB r):=by
 refine fnO (by conv=>lhs; cbv) ?_;unfold zcU at h;refine zac ?_;try simp only[rnA,Nat.reduceEqDiff,Nat.reduceLT,Nat.reduceAdd,reduceCtorEq,zbk]
 cases c1:((p0.length:Int)==(p1.length:Int))
 ·rw[c1,cond_false]at h;try simp only[rnA,Nat.reduceLT]
  replace h:=qab h; subst h;exact zcV.ret rfl (.lit _)
 rw[c1,cond_true]at h;try simp only[rnA,Nat.reduceLT]
 obtain⟨o1,j1,h⟩:=bind_some h;obtain⟨T1,hT1⟩:=mkT fun a:Unit=>⟨26,[],[]⟩
 refine EvL.jn T1 (fun a=>o1=.go a) ?_ ?_
 ·refine zac ?_;simp only[rnA];obtain⟨T2,hT2⟩:=mkT fun a:Int=>⟨26,[(0,(fzE false (eI .i64) p0)),(1,(fzE false (eI .i64) p1)),(5,(dI a))],[]⟩
  refine EvL.rounds (α:=Int) T2 (fun n a=>zcr p0 p1 n a=some o1) ((p0.length:Int) - 0+2:Int).toNat 0 (by rw[hT2]; exact wm0 [] (by exact trivial)) j1 (fun _ h=>nomatch (show(none:Option (Out Unit Bool))=some o1 from h)) ?_;rintro n v5 j1;simp only[zcr]at j1;rw[congrFun hT2 v5];refine zac ?_;try simp only[rnA,Nat.reduceEqDiff,Nat.reduceLT,reduceCtorEq,zbk]
  cases c2:(decide (v5<(p0.length:Int)))
  ·rw[c2,cond_false]at j1;try simp only[rnA]
   replace j1:=qab j1; subst j1;exact lfj hT1 rfl (wm0 [] (by exact trivial))
  rw[c2,cond_true]at j1;obtain⟨x3,g4,j1⟩:=bind_some j1;obtain⟨x5,g6,j1⟩:=bind_some j1;try simp only[rnA,Nat.reduceEqDiff,Nat.reduceLT,reduceCtorEq,zaB (n:=1) (e:=(eI .i64)) rfl g4,zaB (n:=1) (e:=(eI .i64)) rfl g6]
  cases c7:(x3 == x5)
  ·rw[c7,cond_false]at j1;try simp only[rnA,Nat.reduceLT]
   replace j1:=qab j1; subst j1;dsimp only at h;replace h:=qab h; subst h;exact zcV.ret rfl (.lit _)
  rw[c7,cond_true]at j1;try simp only[rnA,Nat.reduceEqDiff,Nat.reduceLT,reduceCtorEq]
  exact⟨(w64 (v5+1)),j1,by rw[hT2]; exact wm0 [] (by exact trivial)⟩
 rintro⟨⟩ rfl;dsimp only at h;rw[congrFun hT1 ()];refine zac ?_;try simp only[rnA,Nat.reduceLT]
 replace h:=qab h; subst h;exact zcV.ret rfl (.lit _)
def zb3(p0:S_api_Factor)(p1:S_api_Factor):Option Bool:=
(((zcU p0.vars p1.vars).bind fun r1=>
bif r1 then(
(zcU p0.cards p1.cards).bind fun r4=>
bif r4 then(
(zcU p0.w p1.w).bind fun r7=>
some r7)
else(
some false))
else(
some false):Option Bool)).bind fun v4=>
some v4
theorem zeQ{p0:S_api_Factor}{p1:S_api_Factor}{r:Bool}(h:zb3 p0 p1=some r):Lx.Fn mC 39 [(.agg [(fzE false (eI .i64) p0.vars),(fzE false (eI .i64) p0.cards),(fzE false (eI .i64) p0.w)]),(.agg [(fzE false (eI .i64) p1.vars),(fzE false (eI .i64) p1.cards),(fzE false (eI .i64) p1.w)])] (dB r):=by
 refine fnO (by conv=>lhs; cbv) ?_;unfold zb3 at h;refine zac ?_;try simp only[rnA,Nat.reduceEqDiff,Nat.reduceLT,Nat.reduceAdd,reduceCtorEq]
 obtain⟨o1,j1,h⟩:=bind_some h;obtain⟨T1,hT1⟩:=mkT fun a:Bool=>⟨24,[(4,(dB a))],[]⟩
 refine EvL.jn T1 (fun a=>a=o1) ?_ ?_
 ·refine zac ?_;obtain⟨r1,g2,j1⟩:=bind_some j1;try simp only[rnA,Nat.reduceEqDiff,Nat.reduceLT,reduceCtorEq]
  refine EvL.fn (zeX g2) rfl rfl (.cons (zaa _ _ (fun h=>nomatch h)) (.cons (zaa _ _ (fun h=>nomatch h)) .nil)) ?_;try simp only[rnA,Nat.reduceEqDiff,Nat.reduceLT,reduceCtorEq]
  cases c3:r1
  ·rw[c3,cond_false]at j1;try simp only[rnA,Nat.reduceEqDiff,Nat.reduceLT,reduceCtorEq]
   refine EvL.dead 9 23 [10] ⟨rfl,qcb⟩ rfl ?_;try simp only[rnA,Nat.reduceEqDiff,Nat.reduceLT,reduceCtorEq]
   replace j1:=qab j1; subst j1;exact lfj hT1 rfl (wm0 [] (by exact trivial))
  rw[c3,cond_true]at j1;obtain⟨r4,g5,j1⟩:=bind_some j1;try simp only[rnA,Nat.reduceEqDiff,Nat.reduceLT,reduceCtorEq]
  refine EvL.fn (zeX g5) rfl rfl (.cons (zaa _ _ (fun h=>nomatch h)) (.cons (zaa _ _ (fun h=>nomatch h)) .nil)) ?_;try simp only[rnA,Nat.reduceEqDiff,Nat.reduceLT,reduceCtorEq]
  cases c6:r4
  ·rw[c6,cond_false]at j1;try simp only[rnA,Nat.reduceEqDiff,Nat.reduceLT,reduceCtorEq]
   refine EvL.skip rfl ?_;try simp only[rnA,Nat.reduceEqDiff,Nat.reduceLT,reduceCtorEq]
   replace j1:=qab j1; subst j1;exact lfj hT1 rfl (wm0 [] (by exact trivial))
  rw[c6,cond_true]at j1;obtain⟨r7,g8,j1⟩:=bind_some j1;try simp only[rnA,Nat.reduceEqDiff,Nat.reduceLT,reduceCtorEq]
  refine EvL.fn (zeX g8) rfl rfl (.cons (zaa _ _ (fun h=>nomatch h)) (.cons (zaa _ _ (fun h=>nomatch h)) .nil)) ?_;try simp only[rnA,Nat.reduceEqDiff,Nat.reduceLT,reduceCtorEq]
  replace j1:=qab j1; subst j1;exact lfj hT1 rfl (wm0 [] (by exact trivial))
 rintro v4 rfl;rw[congrFun hT1 v4];refine zac ?_;try simp only[rnA]
 replace h:=qab h; subst h;exact zcV.ret rfl (.lit _)
def zcD(r1:(S_factor_table×Int))(r4:Int)(p2:Int)(q21:Int):List (Int×Int×(List Int))→(List Int)→Option (List Int)
 | [],l5=>some l5
 | y31 :: ys,l5=>(
(zbN r1.1.steps r4).bind fun x32=>
(zbN r1.1.factor.w (w64 (y31.2.1+(w64 (p2 * x32))))).bind fun x34=>
(zbN l5 y31.1).bind fun x36=>
(zgc l5 y31.1 x34).bind fun y38=>
zcD r1 r4 p2 q21 ys y38)
def zbv(p0:S_api_Factor)(p1:Int)(p2:Int):Option (S_api_Factor×Int):=
(zaE p0).bind fun r1=>
bif (r1.2 == 0)then(
(zaj r1.1 p1).bind fun r4=>
bif (decide (r4<0))then(
some ((S_api_Factor.mk [] [] []),4))
else(
((bif (decide (p2<0))then(
some true)
else(
(zbN r1.1.factor.cards r4).bind fun x8=>
some (decide (x8≤p2))):Option Bool)).bind fun v42=>
bif v42 then(
some ((S_api_Factor.mk [] [] []),2))
else(
(zda 8 r1.1.factor.vars).bind fun y11=>
(zoE y11 r4 (w64 (r4+1))).bind fun y13=>
(zda 8 r1.1.factor.cards).bind fun y15=>
(zoE y15 r4 (w64 (r4+1))).bind fun y17=>
(zbN r1.1.factor.cards r4).bind fun x19=>
(zqW .i64 (r1.1.factor.w.length:Int) x19).bind fun q21=>
(zdD 8 q21 0).bind fun y23=>
(zaI r1.1 y13).bind fun r25=>
(za1 y17 r25).bind fun r27=>
(zoy r27.1 r27.2).bind fun u29=>
((zcD r1 r4 p2 q21 u29 y23:Option (List Int))).bind fun l5=>
some ((S_api_Factor.mk y13 y17 l5),0))))
else(
some ((S_api_Factor.mk [] [] []),r1.2))
def zfZ:C:=
 .seq (rg [oW 3 0,
 oW 5 2,
 ⟨some 6,.alloc [(.slice none 0 0),(.slice none 0 0),(.slice none 0 0)],none⟩,
 oK 7 0])
 (.seq (rg [oN 17 3 3,
 oU 18 77 17,
 oM 16 18,
 oX 19 16 0,
 oX 20 16 1,
 ⟨some 8,.alloc [(.slice none 0 0),(.slice none 0 0),(.slice none 0 0),(.slice none 0 0)],none⟩,
 oS 4 8 19,
 oM 9 20])
 (.seq (.seq (rg [oM 21 9,
 oD 22 .neq 21 0])
 (.cond (.s 22) (.seq (rg [⟨some 23,.build [(.slice none 0 0),(.slice none 0 0),(.slice none 0 0)] [],none⟩,
 oM 24 9,
 oS 3 6 23,
 oM 7 24])
 (.ret))
 (.skip)))
 (.seq (rg [oN 25 4 8,
 oM 26 1,
 oV 27 90 25 26,
 ⟨some 10,.alloc [(.int .i64 0)],none⟩,
 oS 1 10 27])
 (.seq (.seq (rg [oL 28 10,
 oD 29 .lss 28 0])
 (.cond (.s 29) (.seq (rg [⟨some 30,.build [(.slice none 0 0),(.slice none 0 0),(.slice none 0 0)] [],none⟩,
 oS 3 6 30,
 oK 7 4])
 (.ret))
 (.skip)))
 (.seq (.seq (.scope (.reg true false [oL 31 5,
 oD 32 .lss 31 0,
 oM 33 32,
 oLg 34 5 33 false,
 oFg 35 0 8 33 false,
 oFg 36 1 35 33 false,
 oLg 37 36 33 false,
 oLg 38 10 33 false,
 ⟨some 39,.idxS 1 (.s 37) (.s 38),some (33,false)⟩,
 oLg 40 39 33 false,
 ⟨some 41,.bin .geq (.s 34) (.s 40),some (33,false)⟩,
 oP 42 33 41]))
 (.cond (.s 42) (.seq (rg [⟨some 43,.build [(.slice none 0 0),(.slice none 0 0),(.slice none 0 0)] [],none⟩,
 oS 3 6 43,
 oK 7 2])
 (.ret))
 (.skip)))
 (.seq (.reg true false [oF 44 0 8,
 oF 45 0 44,
 oL 46 45,
 oL 48 10,
 oL 49 10,
 oD 50 .add 49 1,
 oU 47 25 46,
 ⟨some 51,.call 91 [(.s 47),(.s 48),(.s 50)],none⟩,
 oM 11 51])
 (.seq (.reg true false [oF 52 0 8,
 oF 53 1 52,
 oL 54 53,
 oL 56 10,
 oL 57 10,
 oD 58 .add 57 1,
 oU 55 25 54,
 ⟨some 59,.call 91 [(.s 55),(.s 56),(.s 58)],none⟩,
 oM 12 59])
 (.seq (.reg true false [oF 60 0 8,
 oF 61 2 60,
 oL 62 61,
 oE 63 62,
 oF 64 0 8,
 oF 65 1 64,
 oL 66 65,
 oL 67 10,
 oI 68 1 66 67,
 oL 69 68,
 oB 70 .quo 63 69,
 ⟨some 71,.mk 1 8 [(.int .i64 0)] (.s 70) (.s 70),none⟩,
 ⟨some 13,.alloc [(.slice none 0 0)],none⟩,
 oS 1 13 71])
 (.seq (.seq (rg [oM 72 12,
 oN 73 4 8,
 oM 74 11,
 oV 75 85 73 74,
 oV 76 84 72 75])
 (.block 0 (.zdB (.s 76) [77,78] (.seq (rg [oM 14 77])
 (rg [oM 15 78]))
 (.block 1 (.reg true false [oL 79 13,
 oM 80 14,
 oF 81 0 8,
 oF 82 2 81,
 oL 83 82,
 oM 84 15,
 oL 85 5,
 oF 86 3 8,
 oL 87 86,
 oL 88 10,
 oI 89 1 87 88,
 oL 90 89,
 oB 91 .mul 85 90,
 oB 92 .add 84 91,
 oI 93 1 83 92,
 oL 94 93,
 oI 95 1 79 80,
 oS 1 95 94])))))
 (.seq (rg [oM 96 11,
 oM 97 12,
 oL 98 13,
 ⟨some 99,.build [(.slice none 0 0),(.slice none 0 0),(.slice none 0 0)] [(0,1,(.s 96)),(1,1,(.s 97)),(2,1,(.s 98))],none⟩,
 oS 3 6 99,
 oK 7 0])
 (.ret)))))))))))
theorem zhm:zgs mC 36=some (100,zfZ,[.cell 6 (some 3),.tmp 7],false):=zbj (by kernel_rfl)
theorem zbU{p0:S_api_Factor}{p1:Int}{p2:Int}{r:(S_api_Factor×Int)}(h:zbv p0 p1 p2=some r):Lx.Fn mC 36 [(.agg [(fzE false (eI .i64) p0.vars),(fzE false (eI .i64) p0.cards),(fzE false (eI .i64) p0.w)]),(dI p1),(dI p2)] (.tup [(.agg [(fzE true (eI .i64) r.1.vars),(fzE true (eI .i64) r.1.cards),(fzE true (eI .i64) r.1.w)]),(dI r.2)]):=by
 refine Fn.of zhm (zbc rfl) (qac rfl) ?_;unfold zbv at h;simp only[zfZ,zkx];refine zac ?_;obtain⟨r1,g2,h⟩:=bind_some h;try simp only[rnA,Nat.reduceEqDiff,Nat.reduceLT,Nat.reduceAdd,Nat.reduceLeDiff,reduceCtorEq]
 refine EvL.fnS (zaX g2) rfl rfl (.cons (Mzs.agg (.cons (zad _ _ (fun h=>by cases h<;>contradiction)) (.cons (zad _ _ (fun h=>by cases h<;>contradiction)) (.cons (zad _ _ (fun h=>by cases h<;>contradiction)) .nil)))) .nil) ⟨⟨(zab _ _),(zab _ _),(zab _ _),qcb⟩,qcb⟩ ⟨⟨(zab _ _),(zab _ _),(zab _ _),(zab _ _),qcb⟩,qcb,qcb⟩ ?_;try simp only[rnA,Nat.reduceEqDiff,Nat.reduceLT,Nat.reduceAdd,Nat.reduceLeDiff,reduceCtorEq]
 cases c3:(r1.2 == 0)
 ·rw[c3,cond_false]at h;try simp only[rnA,Nat.reduceEqDiff,Nat.reduceLT,Nat.reduceAdd,Nat.reduceLeDiff,reduceCtorEq]
  replace h:=qab h; subst h;exact zcV.ret rfl (Snp.zdn (.cons (.zaG (.cons (zai (eI .i64)) (.cons (zai (eI .i64)) (.cons (zai (eI .i64)) .nil)))) (.cons (.lit _) .nil)))
 rw[c3,cond_true]at h;obtain⟨r4,g5,h⟩:=bind_some h;try simp only[rnA,Nat.reduceEqDiff,Nat.reduceLT,Nat.reduceAdd,Nat.reduceLeDiff,reduceCtorEq]
 refine EvL.fn (zam g5) rfl rfl (.cons (.zaG (.cons (zaa _ _ (fun h=>nomatch h)) (.cons (zaa _ _ (fun h=>nomatch h)) (.cons (zaa _ _ (fun h=>nomatch h)) (.cons (zaa _ _ (fun h=>nomatch h)) .nil))))) (.cons (.lit _) .nil)) ?_;try simp only[rnA,Nat.reduceEqDiff,Nat.reduceLT,Nat.reduceAdd,Nat.reduceLeDiff,reduceCtorEq]
 cases c6:(decide (r4<0))
 ·rw[c6,cond_false]at h;try simp only[rnA]
  obtain⟨o1,j1,h⟩:=bind_some h;obtain⟨T1,hT1⟩:=mkT fun a:Bool=>⟨100,[(5,(.ptr 1 0)),(6,(.ptr 2 0)),(8,(.ptr 3 0)),(10,(.ptr 4 0)),(42,(dB a))],[.gone,.cells [(dI p2)],.cells [zaL,zaL,zaL],.cells [(fzE false (eI .i64) r1.1.factor.vars),(fzE false (eI .i64) r1.1.factor.cards),(fzE false (eI .i64) r1.1.factor.w),(fzE false (eI .i64) r1.1.steps)],.cells [(dI r4)]]⟩
  refine EvL.jn T1 (fun a=>a=o1) ?_ ?_
  ·refine zac ?_;try simp only[rnA,Nat.reduceEqDiff,Nat.reduceLT,reduceCtorEq]
   cases c7:(decide (p2<0))
   ·rw[c7,cond_false]at j1;obtain⟨x8,g9,j1⟩:=bind_some j1;try simp only[rnA,Nat.reduceEqDiff,Nat.reduceLT,reduceCtorEq,zaB (n:=1) (e:=(eI .i64)) rfl g9]
    replace j1:=qab j1; subst j1;exact lfj hT1 rfl (wm0 [.d,.k,.k,.k,.k] ⟨rfl,⟨MB.cs ⟨qcb,qcb⟩,⟨MB.cs ⟨qcb,qcb,qcb,qcb⟩,⟨MB.cs ⟨qcb,qcb,qcb,qcb,qcb⟩,⟨MB.cs ⟨qcb,qcb⟩,qcb⟩⟩⟩⟩⟩)
   rw[c7,cond_true]at j1;try simp only[rnA,Nat.reduceEqDiff,Nat.reduceLT,reduceCtorEq]
   replace j1:=qab j1; subst j1;exact lfj hT1 rfl (wm0 [.d,.k,.k,.k,.k] ⟨rfl,⟨MB.cs ⟨qcb,qcb⟩,⟨MB.cs ⟨qcb,qcb,qcb,qcb⟩,⟨MB.cs ⟨qcb,qcb,qcb,qcb,qcb⟩,⟨MB.cs ⟨qcb,qcb⟩,qcb⟩⟩⟩⟩⟩)
  rintro v42 rfl;rw[congrFun hT1 v42];refine zac ?_;try simp only[rnA,Nat.reduceEqDiff]
  cases c10:v42
  ·rw[c10,cond_false]at h;obtain⟨y11,g12,h⟩:=bind_some h;try simp only[rnA,Nat.reduceEqDiff,Nat.reduceLT]
   refine EvL.clone (t:=false) (zs:=r1.1.factor.vars) g12 rfl rfl ?_;obtain⟨y13,g14,h⟩:=bind_some h;try simp only[rnA,Nat.reduceLT,Nat.reduceAdd]
   refine EvL.delete (zs:=y11) (t:=true) g14 rfl rfl rfl rfl rfl rfl ?_;refine EvL.zcY (S':=⟨100,[(5,(.ptr 1 0)),(6,(.ptr 2 0)),(8,(.ptr 3 0)),(10,(.ptr 4 0)),(51,(fzE true (eI .i64) y13))],[.gone,.cells [(dI p2)],.cells [zaL,zaL,zaL],.cells [(fzE false (eI .i64) r1.1.factor.vars),(fzE false (eI .i64) r1.1.factor.cards),(fzE false (eI .i64) r1.1.factor.w),(fzE false (eI .i64) r1.1.steps)],.cells [(dI r4)]]⟩) (zbl.m0 [.d,.k,.k,.k,.k,.f] rfl (msq (msq (msq (msq (mf rfl (zg4 (xs:=y11) (ys:=y13) (t:=true) (ziP g14) rfl rfl rfl (fun _=>rfl)) trivial))))) ⟨rfl,⟨MB.cs ⟨qcb,qcb⟩,⟨MB.cs ⟨qcb,qcb,qcb,qcb⟩,⟨MB.cs ⟨qcb,qcb,qcb,qcb,qcb⟩,⟨MB.cs ⟨qcb,qcb⟩,qcb⟩⟩⟩⟩⟩) (zac ?_);obtain⟨y15,g16,h⟩:=bind_some h;try simp only[rnA,Nat.reduceEqDiff,Nat.reduceLT]
   refine EvL.clone (t:=false) (zs:=r1.1.factor.cards) g16 rfl rfl ?_;obtain⟨y17,g18,h⟩:=bind_some h;try simp only[rnA,Nat.reduceLT,Nat.reduceAdd]
   refine EvL.delete (zs:=y15) (t:=true) g18 rfl rfl rfl rfl rfl rfl ?_;refine EvL.zcY (S':=⟨100,[(5,(.ptr 1 0)),(6,(.ptr 2 0)),(8,(.ptr 3 0)),(10,(.ptr 4 0)),(11,(fzE true (eI .i64) y13)),(59,(fzE true (eI .i64) y17))],[.gone,.cells [(dI p2)],.cells [zaL,zaL,zaL],.cells [(fzE false (eI .i64) r1.1.factor.vars),(fzE false (eI .i64) r1.1.factor.cards),(fzE false (eI .i64) r1.1.factor.w),(fzE false (eI .i64) r1.1.steps)],.cells [(dI r4)]]⟩) (zbl.m0 [.d,.k,.k,.k,.k,.f] rfl (msq (msq (msq (msq (msq (mf rfl (zg4 (xs:=y15) (ys:=y17) (t:=true) (ziP g18) rfl rfl rfl (fun _=>rfl)) trivial)))))) ⟨rfl,⟨MB.cs ⟨qcb,qcb⟩,⟨MB.cs ⟨qcb,qcb,qcb,qcb⟩,⟨MB.cs ⟨qcb,qcb,qcb,qcb,qcb⟩,⟨MB.cs ⟨qcb,qcb⟩,qcb⟩⟩⟩⟩⟩) (zac ?_);obtain⟨x19,g20,h⟩:=bind_some h;obtain⟨q21,g22,h⟩:=bind_some h;obtain⟨y23,g24,h⟩:=bind_some h;obtain⟨r25,g26,h⟩:=bind_some h;try simp only[rnA,Nat.reduceEqDiff,Nat.reduceLT,Nat.reduceAdd,Nat.reduceLeDiff,zbk,zaB (n:=1) (e:=(eI .i64)) rfl g20,zkz g22,zn9 g22,(zau g24).1.1,(zau g24).1.2,qbn,(show List.replicate (Int.toNat q21) [(dI 0)]=y23.map ((eI .i64).c true)from zbw g24 ((eI .i64).c true))]
   refine EvL.fn (zby g26) rfl rfl (.cons (.zaG (.cons (zaa _ _ (fun h=>nomatch h)) (.cons (zaa _ _ (fun h=>nomatch h)) (.cons (zaa _ _ (fun h=>nomatch h)) (.cons (zaa _ _ (fun h=>nomatch h)) .nil))))) (.cons (zaa _ _ (fun h=>nomatch h)) .nil)) ?_;obtain⟨r27,g28,h⟩:=bind_some h;try simp only[rnA,Nat.reduceLT]
   refine EvL.fnS (zbm g28) rfl rfl (.cons (zad _ _ (fun h=>by cases h<;>contradiction)) (.cons (zad _ _ (fun h=>by cases h<;>contradiction)) .nil)) ⟨(zab _ _),(zab _ _),qcb⟩ ⟨qcb,⟨⟨rfl,zab _ _,qcb⟩,⟨rfl,zab _ _,qcb⟩,qcb⟩⟩ ?_;try simp only[rnA,Nat.reduceLT]
   obtain⟨u29,g30,h⟩:=bind_some h;obtain⟨o2,j2,h⟩:=bind_some h;obtain⟨T2,hT2⟩:∃ T:(List Int)→List LB,T=(fun a=>[.gone,.cells [(dI p2)],.cells [zaL,zaL,zaL],.cells [(fzE false (eI .i64) r1.1.factor.vars),(fzE false (eI .i64) r1.1.factor.cards),(fzE false (eI .i64) r1.1.factor.w),(fzE false (eI .i64) r1.1.steps)],.cells [(dI r4)],.els 1 (a.map ((eI .i64).c true)),.cells [(.sl 5 0 1 (Int.toNat q21) (some (Int.toNat q21)) (Int.toNat q21))]]):=⟨_,rfl⟩;refine EvL.zcY (S':=⟨100,[(5,(.ptr 1 0)),(6,(.ptr 2 0)),(8,(.ptr 3 0)),(10,(.ptr 4 0)),(11,(fzE true (eI .i64) y13)),(12,(fzE true (eI .i64) y17)),(13,(.ptr 6 0)),(76,(.clo 120 [] [(.fptr false ((eL (eI .i64)).c false r27.1)),(.fptr false ((eL (eI .i64)).c false r27.2))]))],T2 y23⟩) (by rw[hT2]; exact wm0 [.k,.k,.k,.k,.k,.k,.k] ⟨MB.same trivial,⟨MB.cs ⟨qcb,qcb⟩,⟨MB.cs ⟨qcb,qcb,qcb,qcb⟩,⟨MB.cs ⟨qcb,qcb,qcb,qcb,qcb⟩,⟨MB.cs ⟨qcb,qcb⟩,⟨MB.es (eI .i64) true y23,⟨MB.cs ⟨rfl,qcb⟩,qcb⟩⟩⟩⟩⟩⟩⟩) ?_;refine EvL.zhU (n0:=7) (zbf g30) rfl (bm:=.block 1 (.reg true false [⟨some 79,.load none (.s 13),none⟩,⟨some 80,.mov (.s 14),none⟩,⟨some 81,.fld 0 (.s 8),none⟩,⟨some 82,.fld 2 (.s 81),none⟩,⟨some 83,.load none (.s 82),none⟩,⟨some 84,.mov (.s 15),none⟩,⟨some 85,.load none (.s 5),none⟩,⟨some 86,.fld 3 (.s 8),none⟩,⟨some 87,.load none (.s 86),none⟩,⟨some 88,.load none (.s 10),none⟩,⟨some 89,.idxS 1 (.s 87) (.s 88),none⟩,⟨some 90,.load none (.s 89),none⟩,⟨some 91,.bin .mul (.s 85) (.s 90),none⟩,⟨some 92,.bin .add (.s 84) (.s 91),none⟩,⟨some 93,.idxS 1 (.s 83) (.s 92),none⟩,⟨some 94,.load none (.s 93),none⟩,⟨some 95,.idxS 1 (.s 79) (.s 80),none⟩,⟨none,.store 1 (.s 95) (.s 94),none⟩])) rfl T2 (fun i a=>zcD r1 r4 p2 q21 (u29.drop i) a=some o2∧a.length=(Int.toNat q21)) (fun x L1=>match x with | .normal=>∃ a,o2=a∧a.length=(Int.toNat q21)∧L1=T2 a | .ret=>L1.length=7∧zd8 (7+1) L1∧(zcV [.cell 6 (some 3),.tmp 7] ((.tup [(.agg [(fzE true (eI .i64) r.1.vars),(fzE true (eI .i64) r.1.cards),(fzE true (eI .i64) r.1.w)]),(dI r.2)]))) .ret ⟨100,[(5,(.ptr 1 0)),(6,(.ptr 2 0)),(8,(.ptr 3 0)),(10,(.ptr 4 0)),(11,(fzE true (eI .i64) y13)),(12,(fzE true (eI .i64) y17)),(13,(.ptr 6 0)),(76,(.clo 120 [] [(.fptr false ((eL (eI .i64)).c false r27.1)),(.fptr false ((eL (eI .i64)).c false r27.2))]))],L1 ++ [.lost]⟩| _=>False) y23 ?_ (qaU _) ?_ ?_ ?_ (fun d L1 hx=>hx.elim) ?_ ?_ ?_ ?_ ?_ ?_
   ·intro a; rw[hT2]; rfl
   ·exact⟨(qac rfl),(qac rfl),(qac rfl),(qac rfl),qcb,qcb,(qac rfl),⟨qcb,⟨qcb,qcb,qcb⟩⟩,qcb⟩
   ·intro a; rw[hT2]; exact⟨qcb,⟨qcb,qcb⟩,⟨qcb,qcb,qcb,qcb⟩,⟨qcb,qcb,qcb,qcb,qcb⟩,⟨qcb,qcb⟩,(zcj (eI .i64) _ _ _),⟨(qac rfl),qcb⟩,qcb⟩
   ·intro x L1 hx;cases x with
    | normal=>obtain⟨a,_,_,rfl⟩:=hx; exact⟨by rw[hT2]; rfl,by rw[hT2]; exact⟨qcb,⟨qcb,qcb⟩,⟨qcb,qcb,qcb,qcb⟩,⟨qcb,qcb,qcb,qcb,qcb⟩,⟨qcb,qcb⟩,(zcj (eI .i64) _ _ _),⟨(qac rfl),qcb⟩,qcb⟩⟩
    | ret=>exact⟨hx.1,hx.2.1⟩
    | exit id=>exact hx.elim
    | panic d=>exact hx.elim
   ·exact⟨j2,zaC g24⟩
   ·rintro i l5 y31 args G lpF hy ⟨hi2,el5⟩ ⟨rfl,rfl⟩ hkin;rw[zew hy]at hi2;simp only[zcD]at hi2;refine⟨_,_,rfl,rfl,?_⟩;rw[congrFun hT2 l5];refine zac ?_;obtain⟨x32,g33,hi2⟩:=bind_some hi2;obtain⟨x34,g35,hi2⟩:=bind_some hi2;obtain⟨x36,g37,hi2⟩:=bind_some hi2;obtain⟨y38,g39,hi2⟩:=bind_some hi2;try simp only[rnA,Nat.reduceEqDiff,Nat.reduceLT,Nat.reduceAdd,Nat.reduceLeDiff,zaB (n:=1) (e:=(eI .i64)) rfl g33,zaB (n:=1) (e:=(eI .i64)) rfl g35,el5,zbq g37,(show y31.1<(((Int.toNat q21):Nat):Int)from el5 ▸ zbr g37),zaQ g37 ((eI .i64).c true),(show(l5.map ((eI .i64).c true)).set y31.1.toNat [(dI x34)]=y38.map ((eI .i64).c true)from zbE g39 ((eI .i64).c true))]
    exact⟨T2 y38,by rw[hT2]; rfl,by rw[hT2]; exact zbl.mK [.k,.k,.k,.k,.k,.k,.k,.k,.k] rfl rfl qcb ⟨MB.same trivial,⟨MB.cs ⟨qcb,qcb⟩,⟨MB.cs ⟨qcb,qcb,qcb,qcb⟩,⟨MB.cs ⟨qcb,qcb,qcb,qcb,qcb⟩,⟨MB.cs ⟨qcb,qcb⟩,⟨MB.es (eI .i64) true y38,⟨MB.cs ⟨rfl,qcb⟩,⟨.same (hkin _ (by decide)),⟨MB.same (zcT _ _ _ _),qcb⟩⟩⟩⟩⟩⟩⟩⟩⟩,y38,⟨hi2,(zbd g39).trans el5⟩,rfl⟩
   ·rintro l5 ⟨hi2,el5⟩;rw[qaY]at hi2;simp only[zcD]at hi2;exact⟨l5,(qab hi2).symm,el5,rfl⟩
   ·rintro _ ⟨l5,oeq,el5,rfl⟩;have oeq2:=oeq.symm;subst oeq2;rw[congrFun hT2 l5];refine zac ?_;try simp only[rnA,Nat.reduceEqDiff,Nat.reduceLT,Nat.reduceAdd,Nat.reduceLeDiff]
    replace h:=qab h; subst h;exact zcV.ret rfl (Snp.zdn (.cons (.zaG (.cons (zaa _ _ (fun _=>rfl)) (.cons (zaa _ _ (fun _=>rfl)) (.cons (zbh (e:=(eI .i64)) (t:=true) rfl (.inl rfl) (el5).symm (el5).symm (fun k h=>by cases h; exact qaf _) (fun _=>rfl)) .nil)))) (.cons (.lit _) .nil)))
   ·intro id L1 hx; exact hx.elim
   intro L1 hx; exact hx.2.2
  rw[c10,cond_true]at h;try simp only[rnA,Nat.reduceEqDiff,Nat.reduceLT,Nat.reduceAdd,Nat.reduceLeDiff]
  replace h:=qab h; subst h;exact zcV.ret rfl (Snp.zdn (.cons (.zaG (.cons (zai (eI .i64)) (.cons (zai (eI .i64)) (.cons (zai (eI .i64)) .nil)))) (.cons (.lit _) .nil)))
 rw[c6,cond_true]at h;try simp only[rnA,Nat.reduceEqDiff,Nat.reduceLT,Nat.reduceAdd,Nat.reduceLeDiff,reduceCtorEq]
 replace h:=qab h; subst h;exact zcV.ret rfl (Snp.zdn (.cons (.zaG (.cons (zai (eI .i64)) (.cons (zai (eI .i64)) (.cons (zai (eI .i64)) .nil)))) (.cons (.lit _) .nil)))
def zca:Option S_api_Factor:=
some (S_api_Factor.mk [] [] [1])
theorem zcB{r:S_api_Factor}(h:zca=some r):Lx.Fn mC 38 [] (.agg [(fzE true (eI .i64) r.vars),(fzE true (eI .i64) r.cards),(fzE true (eI .i64) r.w)]):=by
 refine fnO (by conv=>lhs; cbv) ?_;unfold zca at h;refine zac ?_;try simp only[rnA,Nat.reduceEqDiff,reduceIte,Nat.reduceLT,Nat.reduceAdd,Nat.reduceLeDiff,Nat.reduceMul,Nat.reduceSub,Int.reduceLE,Int.reduceLT,Int.reduceBEq,Nat.reduceBEq,reduceCtorEq,zae]
 replace h:=qab h; subst h;exact zcV.ret rfl (.zaG (.cons (zai (eI .i64)) (.cons (zai (eI .i64)) (.cons (zbh (e:=(eI .i64)) (t:=true) rfl (.inl rfl) rfl rfl (fun k h=>by cases h; exact qaf _) (fun _=>rfl)) .nil))))
def zao(p0:S_api_Factor)(p1:Int)(p2:Int):Option Bool:=
((bif (p1 == p2)then(
(zb3 p0 (S_api_Factor.mk [] [] [])).bind fun r2=>
some r2)
else(
some false):Option Bool)).bind fun v5=>
some v5
theorem zan{p0:S_api_Factor}{p1:Int}{p2:Int}{r:Bool}(h:zao p0 p1 p2=some r):Lx.Fn mC 80 [(.agg [(fzE false (eI .i64) p0.vars),(fzE false (eI .i64) p0.cards),(fzE false (eI .i64) p0.w)]),(dI p1),(.fptr false ((eI .i64).c false p2))] (dB r):=by
 refine fnO (by conv=>lhs; cbv) ?_;unfold zao at h;refine zac ?_;try simp only[rnA,Nat.reduceEqDiff,reduceIte,Nat.reduceLT,Nat.reduceAdd,Nat.reduceLeDiff,Nat.reduceMul,Nat.reduceSub,Int.reduceLE,Int.reduceLT,Int.reduceBEq,Nat.reduceBEq,reduceCtorEq,zae,zcC]
 obtain⟨o1,j1,h⟩:=bind_some h;obtain⟨T1,hT1⟩:=mkT fun a:Bool=>⟨14,[(5,(dB a))],[]⟩
 refine EvL.jn T1 (fun a=>a=o1) ?_ ?_
 ·refine zac ?_;try simp only[rnA,Nat.reduceEqDiff,reduceIte,Nat.reduceLT,Nat.reduceAdd,Nat.reduceLeDiff,Nat.reduceMul,Nat.reduceSub,Int.reduceLE,Int.reduceLT,Int.reduceBEq,Nat.reduceBEq,reduceCtorEq,zae]
  cases c1:(p1 == p2)
  ·rw[c1,cond_false]at j1;try simp only[rnA,Nat.reduceEqDiff,reduceIte,Nat.reduceLT,Nat.reduceAdd,Nat.reduceLeDiff,Nat.reduceMul,Nat.reduceSub,Int.reduceLE,Int.reduceLT,Int.reduceBEq,Nat.reduceBEq,reduceCtorEq,zae,c1]
   refine EvL.skip rfl ?_;try simp only[rnA,Nat.reduceEqDiff,reduceIte,Nat.reduceLT,Nat.reduceAdd,Nat.reduceLeDiff,Nat.reduceMul,Nat.reduceSub,Int.reduceLE,Int.reduceLT,Int.reduceBEq,Nat.reduceBEq,reduceCtorEq,zae,c1]
   replace j1:=qab j1; subst j1;exact lfj hT1 rfl (wm0 [] (by exact trivial))
  rw[c1,cond_true]at j1;obtain⟨r2,g3,j1⟩:=bind_some j1;try simp only[rnA,Nat.reduceEqDiff,reduceIte,Nat.reduceLT,Nat.reduceAdd,Nat.reduceLeDiff,Nat.reduceMul,Nat.reduceSub,Int.reduceLE,Int.reduceLT,Int.reduceBEq,Nat.reduceBEq,reduceCtorEq,zae,c1]
  refine EvL.fn (zeQ g3) rfl rfl (.cons (.zaG (.cons (zaa _ _ (fun h=>nomatch h)) (.cons (zaa _ _ (fun h=>nomatch h)) (.cons (zaa _ _ (fun h=>nomatch h)) .nil)))) (.cons (.zaG (.cons (zai (eI .i64)) (.cons (zai (eI .i64)) (.cons (zai (eI .i64)) .nil)))) .nil)) ?_;try simp only[rnA,Nat.reduceEqDiff,reduceIte,Nat.reduceLT,Nat.reduceAdd,Nat.reduceLeDiff,Nat.reduceMul,Nat.reduceSub,Int.reduceLE,Int.reduceLT,Int.reduceBEq,Nat.reduceBEq,reduceCtorEq,zae,c1]
  replace j1:=qab j1; subst j1;exact lfj hT1 rfl (wm0 [] (by exact trivial))
 rintro v5 rfl;rw[congrFun hT1 v5];refine zac ?_;try simp only[rnA,Nat.reduceEqDiff,reduceIte,Nat.reduceLT,Nat.reduceAdd,Nat.reduceLeDiff,Nat.reduceMul,Nat.reduceSub,Int.reduceLE,Int.reduceLT,Int.reduceBEq,Nat.reduceBEq,reduceCtorEq,zae]
 replace h:=qab h; subst h;exact zcV.ret rfl (.lit _)
def zaU(p0:S_api_Factor)(p1:Int)(p2:S_api_Factor):Option Bool:=
((bif (p1 == 0)then(
(zb3 p0 p2).bind fun r2=>
some r2)
else(
some false):Option Bool)).bind fun v5=>
some v5
theorem za5{p0:S_api_Factor}{p1:Int}{p2:S_api_Factor}{r:Bool}(h:zaU p0 p1 p2=some r):Lx.Fn mC 87 [(.agg [(fzE false (eI .i64) p0.vars),(fzE false (eI .i64) p0.cards),(fzE false (eI .i64) p0.w)]),(dI p1),(.fptr false (zah.c false p2))] (dB r):=by
 refine fnO (by conv=>lhs; cbv) ?_;unfold zaU at h;refine zac ?_;try simp only[rnA,Nat.reduceEqDiff,reduceIte,Nat.reduceLT,Nat.reduceAdd,Nat.reduceLeDiff,Nat.reduceMul,Nat.reduceSub,Int.reduceLE,Int.reduceLT,Int.reduceBEq,Nat.reduceBEq,reduceCtorEq,zae,zcC]
 obtain⟨o1,j1,h⟩:=bind_some h;obtain⟨T1,hT1⟩:=mkT fun a:Bool=>⟨13,[(5,(dB a))],[]⟩
 refine EvL.jn T1 (fun a=>a=o1) ?_ ?_
 ·refine zac ?_;try simp only[rnA,Nat.reduceEqDiff,reduceIte,Nat.reduceLT,Nat.reduceAdd,Nat.reduceLeDiff,Nat.reduceMul,Nat.reduceSub,Int.reduceLE,Int.reduceLT,Int.reduceBEq,Nat.reduceBEq,reduceCtorEq,zae]
  cases c1:(p1 == 0)
  ·rw[c1,cond_false]at j1;try simp only[rnA,Nat.reduceEqDiff,reduceIte,Nat.reduceLT,Nat.reduceAdd,Nat.reduceLeDiff,Nat.reduceMul,Nat.reduceSub,Int.reduceLE,Int.reduceLT,Int.reduceBEq,Nat.reduceBEq,reduceCtorEq,zae,c1]
   refine EvL.skip rfl ?_;try simp only[rnA,Nat.reduceEqDiff,reduceIte,Nat.reduceLT,Nat.reduceAdd,Nat.reduceLeDiff,Nat.reduceMul,Nat.reduceSub,Int.reduceLE,Int.reduceLT,Int.reduceBEq,Nat.reduceBEq,reduceCtorEq,zae,c1]
   replace j1:=qab j1; subst j1;exact lfj hT1 rfl (wm0 [] (by exact trivial))
  rw[c1,cond_true]at j1;obtain⟨r2,g3,j1⟩:=bind_some j1;try simp only[rnA,Nat.reduceEqDiff,reduceIte,Nat.reduceLT,Nat.reduceAdd,Nat.reduceLeDiff,Nat.reduceMul,Nat.reduceSub,Int.reduceLE,Int.reduceLT,Int.reduceBEq,Nat.reduceBEq,reduceCtorEq,zae,c1]
  refine EvL.fn (zeQ g3) rfl rfl (.cons (.zaG (.cons (zaa _ _ (fun h=>nomatch h)) (.cons (zaa _ _ (fun h=>nomatch h)) (.cons (zaa _ _ (fun h=>nomatch h)) .nil)))) (.cons (.zaG (.cons (zaa _ _ (fun h=>nomatch h)) (.cons (zaa _ _ (fun h=>nomatch h)) (.cons (zaa _ _ (fun h=>nomatch h)) .nil)))) .nil)) ?_;try simp only[rnA,Nat.reduceEqDiff,reduceIte,Nat.reduceLT,Nat.reduceAdd,Nat.reduceLeDiff,Nat.reduceMul,Nat.reduceSub,Int.reduceLE,Int.reduceLT,Int.reduceBEq,Nat.reduceBEq,reduceCtorEq,zae,c1]
  replace j1:=qab j1; subst j1;exact lfj hT1 rfl (wm0 [] (by exact trivial))
 rintro v5 rfl;rw[congrFun hT1 v5];refine zac ?_;try simp only[rnA,Nat.reduceEqDiff,reduceIte,Nat.reduceLT,Nat.reduceAdd,Nat.reduceLeDiff,Nat.reduceMul,Nat.reduceSub,Int.reduceLE,Int.reduceLT,Int.reduceBEq,Nat.reduceBEq,reduceCtorEq,zae]
 replace h:=qab h; subst h;exact zcV.ret rfl (.lit _)
end Go.Dc
