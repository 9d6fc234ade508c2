/-
 What r02_Next computes. Conditions: none.
-/
import Derived.Test.YtnfgibomhkbcpaaNtJ6
set_option linter.unusedSimpArgs false
set_option linter.unusedVariables false
set_option maxRecDepth 100000
set_option maxHeartbeats 4000000
namespace Go.Dc
open Go Go.Mx Go.Lx Go.Proofs
def zds(p0:Int)(p1:Int):Option (Int×Int):=
(ziT .u64 p0 32).bind fun q1=>
(ziT .u64 p1 32).bind fun q3=>
(ziT .u64 (IntKind.u64.wrap ((zkO .u64 p0 4294967295)* (zkO .u64 p1 4294967295))) 32).bind fun q5=>
(ziT .u64 (IntKind.u64.wrap ((IntKind.u64.wrap (q1 * (zkO .u64 p1 4294967295)))+q5)) 32).bind fun q7=>
(ziT .u64 (IntKind.u64.wrap ((zkO .u64 (IntKind.u64.wrap ((IntKind.u64.wrap (q1 * (zkO .u64 p1 4294967295)))+q5)) 4294967295)+(IntKind.u64.wrap ((zkO .u64 p0 4294967295)* q3)))) 32).bind fun q9=>
some ((IntKind.u64.wrap ((IntKind.u64.wrap ((IntKind.u64.wrap (q1 * q3))+q7))+q9)),(IntKind.u64.wrap (p0 * p1)))
theorem zkZ{p0:Int}{p1:Int}{r:(Int×Int)}(h:zds p0 p1=some r):Lx.Fn mC 95 [(dU p0),(dU p1)] (.tup [(dU r.1),(dU r.2)]):=by
 refine fnO (by conv=>lhs; cbv) ?_;unfold zds at h;refine zaa ?_;obtain⟨q1,g2,h⟩:=bind_some h;obtain⟨q3,g4,h⟩:=bind_some h;obtain⟨q5,g6,h⟩:=bind_some h;obtain⟨q7,g8,h⟩:=bind_some h;obtain⟨q9,g10,h⟩:=bind_some h;try simp only[rnA,Nat.reduceEqDiff,reduceIte,Nat.reduceLT,Nat.reduceAdd,Nat.reduceLeDiff,Nat.reduceMul,Nat.reduceSub,Int.reduceLE,Int.reduceLT,Int.reduceBEq,Nat.reduceBEq,reduceCtorEq,(zbB g2).1,(zbB g2).2,(zbB g4).1,(zbB g4).2,(zbB g6).1,(zbB g6).2,(zbB g8).1,(zbB g8).2,(zbB g10).1,(zbB g10).2]
 replace h:=qac h; subst h;exact zcr.ret rfl (Snp.zeU (.cons (.lit _) (.cons (.lit _) .nil)))
def zbz(y7:(List Int))(p0:S_factor_table)(p1:S_factor_table):Nat→Int→(List Int)→Option (List Int)
 | 0,_,_=>none
 | n+1,v26,l2=>(
bif (decide (v26<(y7.length:Int)))then(
(zaZ y7 v26).bind fun x12=>
(zaH p0 x12).bind fun r14=>
((bif (decide (0≤r14))then(
(zaZ p0.factor.zad r14).bind fun x25=>
(zaZ l2 v26).bind fun x27=>
(zfu l2 v26 x25).bind fun y29=>
some y29)
else(
(zaH p1 x12).bind fun r17=>
(zaZ p1.factor.zad r17).bind fun x19=>
(zaZ l2 v26).bind fun x21=>
(zfu l2 v26 x19).bind fun y23=>
some y23):Option (List Int))).bind fun l2'=>
zbz y7 p0 p1 n (w64 (v26+1)) l2')
else(
some l2))
def zcv(p0:S_factor_table)(p1:S_factor_table):Option ((List Int)×(List Int)):=
(zeP 8 p0.factor.vars).bind fun y1=>
(zdY 8 y1 p1.factor.vars).bind fun y3=>
(zmA 8 y3).bind fun y5=>
(zxL y5).bind fun y7=>
(zet 8 (y7.length:Int) 0).bind fun y9=>
((zbz y7 p0 p1 ((y7.length:Int) - 0+2:Int).toNat 0 y9:Option (List Int))).bind fun l2=>
some (y7,l2)
def zfU:C:=
 .seq (rg [oW 2 0,
 oW 3 1,
 ⟨some 4,.mov (.c (.slice none 0 0)),none⟩,
 ⟨some 5,.mov (.c (.slice none 0 0)),none⟩])
 (.seq (.reg true false [oF 9 0 2,
 oF 10 0 9,
 oL 11 10,
 oF 13 0 3,
 oF 14 0 13,
 oL 15 14,
 oU 12 49 11,
 oT 16 1 8 12 15,
 oM 4 16])
 (.seq (rg [oM 17 4,
 oU 18 50 17])
 (.seq (rg [oM 19 4,
 oU 20 133 19,
 oM 4 20])
 (.seq (rg [oM 21 4,
 oE 22 21,
 ⟨some 23,.mk 1 8 [(.int .i64 0)] (.s 22) (.s 22),none⟩,
 oM 5 23])
 (.seq (.seq (rg [oM 24 4,
 oE 25 24,
 oK 26 0])
 (.scope (.block 0 (.loop (.seq (rg [oB 27 .lss 26 25])
 (.seq (.cond (.s 27) (.skip)
 (.exit 0))
 (.seq (.block 1 (.seq (rg [oM 28 26,
 oI 29 1 24 26,
 oL 30 29,
 oM 6 28,
 oM 7 30])
 (.seq (rg [oN 31 4 2,
 oM 32 7,
 oV 33 96 31 32,
 oM 8 33])
 (.seq (rg [oM 34 8,
 oD 35 .geq 34 0])
 (.scope (.cond (.s 35) (rg [oM 36 5,
 oM 37 6,
 oF 38 0 2,
 oF 39 1 38,
 oL 40 39,
 oM 41 8,
 oI 42 1 40 41,
 oL 43 42,
 oI 44 1 36 37,
 oS 1 44 43])
 (.reg true true [oM 45 5,
 oM 46 6,
 oF 47 0 3,
 oF 48 1 47,
 oL 49 48,
 oN 50 4 3,
 oM 51 7,
 oV 52 96 50 51,
 oI 53 1 49 52,
 oL 54 53,
 oI 55 1 45 46,
 oS 1 55 54])))))))
 (rg [oD 56 .add 26 1,
 oM 26 56]))))))))
 (.seq (rg [oM 57 4,
 oM 58 5,
 oM 4 57,
 oM 5 58])
 (.ret)))))))
theorem zhE:ziU mC 91=some (59,zfU,[.tmp 4,.tmp 5],false):=zbu (by kernel_rfl)
theorem zhZ{p0:S_factor_table}{p1:S_factor_table}{r:((List Int)×(List Int))}(h:zcv p0 p1=some r):Lx.Fn mC 91 [(.agg [(fzE false (eI .i64) p0.factor.vars),(fzE false (eI .i64) p0.factor.zad),(fzE false (eI .i64) p0.factor.w),(fzE false (eI .i64) p0.steps)]),(.agg [(fzE false (eI .i64) p1.factor.vars),(fzE false (eI .i64) p1.factor.zad),(fzE false (eI .i64) p1.factor.w),(fzE false (eI .i64) p1.steps)])] (.tup [(fzE true (eI .i64) r.1),(fzE true (eI .i64) r.2)]):=by
 refine Fn.of zhE (zbo rfl) (qaf rfl) ?_;unfold zcv at h;simp only[zfU,zjR];refine zaa ?_;obtain⟨y1,g2,h⟩:=bind_some h;try simp only[rnA,Nat.reduceEqDiff,Nat.reduceLT,Nat.reduceAdd,reduceCtorEq]
 refine EvL.clone (t:=false) (zs:=p0.factor.vars) g2 rfl rfl ?_;obtain⟨y3,g4,h⟩:=bind_some h;obtain⟨y5,g6,h⟩:=bind_some h;try simp only[rnA,Nat.reduceEqDiff,Nat.reduceLT,Nat.reduceAdd,reduceCtorEq,(show ∀ L,zm7 L 1 (fzE false (eI .i64) p1.factor.vars)=some (p1.factor.vars.map ((eI .i64).c true))from fun L=>zsB (e:=(eI .i64)) rfl _ L false),zdE g4,(show y1.length+p1.factor.vars.length=y3.length from zcx g4),(show y1.map ((eI .i64).c true)++ p1.factor.vars.map ((eI .i64).c true)=y3.map ((eI .i64).c true)from zc9 g4 ((eI .i64).c true))]
 refine EvL.sort (zs:=y3) (t:=true) g6 rfl rfl rfl rfl rfl ?_;obtain⟨y7,g8,h⟩:=bind_some h;try simp only[rnA,Nat.reduceEqDiff,Nat.reduceLT,reduceCtorEq]
 refine EvL.compact (zs:=y5) (t:=true) g8 rfl rfl rfl (((zmW g6).trans rfl)).symm (((zmW g6).trans rfl)).symm rfl ?_;refine EvL.zl2 (S':=⟨59,[(2,(.ptr 0 0)),(3,(.ptr 1 0)),(20,(fzE true (eI .i64) y7))],[.cells [(fzE false (eI .i64) p0.factor.vars),(fzE false (eI .i64) p0.factor.zad),(fzE false (eI .i64) p0.factor.w),(fzE false (eI .i64) p0.steps)],.cells [(fzE false (eI .i64) p1.factor.vars),(fzE false (eI .i64) p1.factor.zad),(fzE false (eI .i64) p1.factor.w),(fzE false (eI .i64) p1.steps)]]⟩) (zbC.m0 [.k,.k,.f] rfl (msq (msq (mf rfl (zv5 (xs:=y5) (ys:=y7) (t:=true) (zxt g8) rfl rfl rfl (fun _=>rfl)) trivial))) ⟨MB.cs ⟨qdb,qdb,qdb,qdb,qdb⟩,⟨MB.cs ⟨qdb,qdb,qdb,qdb,qdb⟩,qdb⟩⟩) (zaa ?_);obtain⟨y9,g10,h⟩:=bind_some h;try simp only[rnA,Nat.reduceEqDiff,Nat.reduceLT,Nat.reduceAdd,zat,(zaC g10).1.1,(zaC g10).1.2,qbU,(show List.replicate (Int.toNat (y7.length:Int)) [(dI 0)]=y9.map ((eI .i64).c true)from zb2 g10 ((eI .i64).c true))]
 obtain⟨o4,j4,h⟩:=bind_some h;obtain⟨T4,hT4⟩:=mkT fun a:(List Int)=>⟨59,[(4,(fzE true (eI .i64) y7)),(5,(.sl 2 0 1 (Int.toNat (y7.length:Int)) (some (Int.toNat (y7.length:Int))) (Int.toNat (y7.length:Int))))],[.gone,.gone,.els 1 (a.map ((eI .i64).c true))]⟩
 refine EvL.jn T4 (fun a=>a=o4∧a.length=(Int.toNat (y7.length:Int))) ?_ ?_
 ·refine zaa ?_;simp only[rnA];obtain⟨T7,hT7⟩:=mkT fun a:(Int×(List Int))=>⟨59,[(2,(.ptr 0 0)),(3,(.ptr 1 0)),(4,(fzE true (eI .i64) y7)),(5,(.sl 2 0 1 (Int.toNat (y7.length:Int)) (some (Int.toNat (y7.length:Int))) (Int.toNat (y7.length:Int)))),(24,(fzE true (eI .i64) y7)),(25,(dI (y7.length:Int))),(26,(dI a.1))],[.cells [(fzE false (eI .i64) p0.factor.vars),(fzE false (eI .i64) p0.factor.zad),(fzE false (eI .i64) p0.factor.w),(fzE false (eI .i64) p0.steps)],.cells [(fzE false (eI .i64) p1.factor.vars),(fzE false (eI .i64) p1.factor.zad),(fzE false (eI .i64) p1.factor.w),(fzE false (eI .i64) p1.steps)],.els 1 (a.2.map ((eI .i64).c true))]⟩
  refine EvL.rounds (α:=(Int×(List Int))) T7 (fun n a=>zbz y7 p0 p1 n a.1 a.2=some o4∧a.2.length=(Int.toNat (y7.length:Int))) ((y7.length:Int) - 0+2:Int).toNat (0,y9) (by rw[hT7]; exact wm0 [.k,.k,.k] ⟨MB.cs ⟨qdb,qdb,qdb,qdb,qdb⟩,⟨MB.cs ⟨qdb,qdb,qdb,qdb,qdb⟩,⟨MB.es (eI .i64) true y9,qdb⟩⟩⟩) ⟨j4,zby g10⟩ (fun _ h=>nomatch (show(none:Option (List Int))=some o4 from h.1)) ?_;rintro n ⟨v26,l2⟩ ⟨j4,el2⟩;simp only[zbz]at j4;rw[congrFun hT7 (v26,l2)];refine zaa ?_;try simp only[rnA,Nat.reduceEqDiff,Nat.reduceLT]
  cases c11:(decide (v26<(y7.length:Int)))
  ·rw[c11,cond_false]at j4;try simp only[rnA]
   replace j4:=qac j4; subst j4;exact⟨_,⟨rfl,el2⟩,by rw[hT4]; exact wm0 [.d,.d,.k] ⟨rfl,⟨rfl,⟨MB.es (eI .i64) true l2,qdb⟩⟩⟩⟩
  rw[c11,cond_true]at j4;obtain⟨x12,g13,j4⟩:=bind_some j4;obtain⟨r14,g15,j4⟩:=bind_some j4;try simp only[rnA,Nat.reduceEqDiff,Nat.reduceLT,Nat.reduceAdd,Nat.reduceLeDiff,zao (n:=1) (e:=(eI .i64)) rfl g13]
  refine EvL.fn (zbG g15) rfl rfl (.cons (.zd9 (.cons (zah _ _ (fun h=>nomatch h)) (.cons (zah _ _ (fun h=>nomatch h)) (.cons (zah _ _ (fun h=>nomatch h)) (.cons (zah _ _ (fun h=>nomatch h)) .nil))))) (.cons (.lit _) .nil)) ?_;try simp only[rnA,Nat.reduceEqDiff,Nat.reduceLT]
  obtain⟨o8,j8,j4⟩:=bind_some j4;obtain⟨T8,hT8⟩:=mkT fun a:(List Int)=>⟨59,[(2,(.ptr 0 0)),(3,(.ptr 1 0)),(4,(fzE true (eI .i64) y7)),(5,(.sl 2 0 1 (Int.toNat (y7.length:Int)) (some (Int.toNat (y7.length:Int))) (Int.toNat (y7.length:Int)))),(24,(fzE true (eI .i64) y7)),(25,(dI (y7.length:Int))),(26,(dI v26))],[.cells [(fzE false (eI .i64) p0.factor.vars),(fzE false (eI .i64) p0.factor.zad),(fzE false (eI .i64) p0.factor.w),(fzE false (eI .i64) p0.steps)],.cells [(fzE false (eI .i64) p1.factor.vars),(fzE false (eI .i64) p1.factor.zad),(fzE false (eI .i64) p1.factor.w),(fzE false (eI .i64) p1.steps)],.els 1 (a.map ((eI .i64).c true))]⟩
  refine EvL.jn T8 (fun a=>a=o8∧a.length=(Int.toNat (y7.length:Int))) ?_ ?_
  ·refine zaa ?_;try simp only[rnA,Nat.reduceEqDiff]
   cases c16:(decide (0≤r14))
   ·rw[c16,cond_false]at j8;obtain⟨r17,g18,j8⟩:=bind_some j8;try simp only[rnA,Nat.reduceEqDiff,Nat.reduceLT,Nat.reduceAdd,Nat.reduceLeDiff]
    refine EvL.fn (zbG g18) rfl rfl (.cons (.zd9 (.cons (zah _ _ (fun h=>nomatch h)) (.cons (zah _ _ (fun h=>nomatch h)) (.cons (zah _ _ (fun h=>nomatch h)) (.cons (zah _ _ (fun h=>nomatch h)) .nil))))) (.cons (.lit _) .nil)) ?_;obtain⟨x19,g20,j8⟩:=bind_some j8;obtain⟨x21,g22,j8⟩:=bind_some j8;obtain⟨y23,g24,j8⟩:=bind_some j8;try simp only[rnA,Nat.reduceEqDiff,Nat.reduceLT,Nat.reduceLeDiff,zao (n:=1) (e:=(eI .i64)) rfl g20,el2,zbl g22,(show v26<(((Int.toNat (y7.length:Int)):Nat):Int)from el2 ▸ zbm g22),zaR g22 ((eI .i64).c true),(show(l2.map ((eI .i64).c true)).set v26.toNat [(dI x19)]=y23.map ((eI .i64).c true)from zbs g24 ((eI .i64).c true))]
    replace j8:=qac j8; subst j8;exact⟨_,⟨rfl,(zbg g24).trans el2⟩,by rw[hT8]; exact wm0 [.k,.k,.k] ⟨MB.cs ⟨qdb,qdb,qdb,qdb,qdb⟩,⟨MB.cs ⟨qdb,qdb,qdb,qdb,qdb⟩,⟨MB.es (eI .i64) true y23,qdb⟩⟩⟩⟩
   rw[c16,cond_true]at j8;obtain⟨x25,g26,j8⟩:=bind_some j8;obtain⟨x27,g28,j8⟩:=bind_some j8;obtain⟨y29,g30,j8⟩:=bind_some j8;try simp only[rnA,Nat.reduceEqDiff,Nat.reduceLT,Nat.reduceLeDiff,zao (n:=1) (e:=(eI .i64)) rfl g26,el2,zbl g28,(show v26<(((Int.toNat (y7.length:Int)):Nat):Int)from el2 ▸ zbm g28),zaR g28 ((eI .i64).c true),(show(l2.map ((eI .i64).c true)).set v26.toNat [(dI x25)]=y29.map ((eI .i64).c true)from zbs g30 ((eI .i64).c true))]
   replace j8:=qac j8; subst j8;exact⟨_,⟨rfl,(zbg g30).trans el2⟩,by rw[hT8]; exact wm0 [.k,.k,.k] ⟨MB.cs ⟨qdb,qdb,qdb,qdb,qdb⟩,⟨MB.cs ⟨qdb,qdb,qdb,qdb,qdb⟩,⟨MB.es (eI .i64) true y29,qdb⟩⟩⟩⟩
  rintro l2' ⟨rfl,el2'⟩;rw[congrFun hT8 l2'];refine zaa ?_;try simp only[rnA,Nat.reduceEqDiff,Nat.reduceLT]
  exact⟨((w64 (v26+1)),l2'),⟨j4,el2'⟩,by rw[hT7]; exact wm0 [.k,.k,.k] ⟨MB.cs ⟨qdb,qdb,qdb,qdb,qdb⟩,⟨MB.cs ⟨qdb,qdb,qdb,qdb,qdb⟩,⟨MB.es (eI .i64) true l2',qdb⟩⟩⟩⟩
 rintro l2 ⟨rfl,el2⟩;rw[congrFun hT4 l2];refine zaa ?_;try simp only[rnA,Nat.reduceEqDiff,Nat.reduceLT]
 replace h:=qac h; subst h;exact zcr.ret rfl (Snp.zeU (.cons (zah _ _ (fun _=>rfl)) (.cons (zbD (e:=(eI .i64)) (t:=true) rfl (.inl rfl) (el2).symm (el2).symm (fun k h=>by cases h; exact qal _) (fun _=>rfl)) .nil)))
def zbZ(r4:(S_factor_table×Int))(r12:(Int×Int)):List (Int×Int×(List Int))→(List Int)→Option (Out (List Int) (S_api_Factor×Int))
 | [],l6'=>some (.go l6')
 | y36 :: ys,l6'=>(
(zaZ l6' y36.1).bind fun x37=>
(zaZ r4.1.factor.w y36.2.1).bind fun x39=>
(zds (IntKind.u64.wrap x37) (IntKind.u64.wrap x39)).bind fun r41=>
((bif (r41.1 == 0)then(
some (decide (4611686018427387903<r41.2)))
else(
some true):Option Bool)).bind fun v102=>
bif v102 then(
some (.ret ((S_api_Factor.mk [] [] []),6)))
else(
(zaZ l6' y36.1).bind fun x45=>
(zfu l6' y36.1 (w64 r41.2)).bind fun y47=>
zbZ r4 r12 ys y47))
def zbV(r1:(S_factor_table×Int))(r12:(Int×Int)):List (Int×Int×(List Int))→(List Int)→Option (List Int)
 | [],l6=>some l6
 | y23 :: ys,l6=>(
(zaZ r1.1.factor.w y23.2.1).bind fun x24=>
(zaZ l6 y23.1).bind fun x26=>
(zfu l6 y23.1 x24).bind fun y28=>
zbV r1 r12 ys y28)
def zcc(p0:S_api_Factor)(p1:S_api_Factor):Option (S_api_Factor×Int):=
(zb0 p0).bind fun r1=>
bif (r1.2 == 0)then(
(zb0 p1).bind fun r4=>
bif (r4.2 == 0)then(
(zcy r1.1 r4.1).bind fun r7=>
bif r7 then(
(zcv r1.1 r4.1).bind fun r10=>
(zbS r10.2).bind fun r12=>
bif (r12.2 == 0)then(
(zet 8 r12.1 0).bind fun y15=>
(za5 r1.1 r10.1).bind fun r17=>
(zcG r10.2 r17).bind fun r19=>
(zxM r19.1 r19.2).bind fun u21=>
((zbV r1 r12 u21 y15:Option (List Int))).bind fun l6=>
(za5 r4.1 r10.1).bind fun r30=>
(zcG r10.2 r30).bind fun r32=>
(zxM r32.1 r32.2).bind fun u34=>
((zbZ r4 r12 u34 l6:Option (Out (List Int) (S_api_Factor×Int)))).bind fun o=>match o with
| .go l6'=>(
some ((S_api_Factor.mk r10.1 r10.2 l6'),0))
| .ret r=>some r)
else(
some ((S_api_Factor.mk [] [] []),3)))
else(
some ((S_api_Factor.mk [] [] []),2)))
else(
some ((S_api_Factor.mk [] [] []),r4.2)))
else(
some ((S_api_Factor.mk [] [] []),r1.2))
def zhp:C:=
 .seq (rg [oW 2 0,
 oW 3 1,
 ⟨some 4,.alloc [(.slice none 0 0),(.slice none 0 0),(.slice none 0 0)],none⟩,
 ⟨some 5,.alloc [(.int .i64 0)],none⟩])
 (.seq (rg [oN 20 3 2,
 oU 21 89 20,
 oM 19 21,
 oX 22 19 0,
 oX 23 19 1,
 ⟨some 6,.alloc [(.slice none 0 0),(.slice none 0 0),(.slice none 0 0),(.slice none 0 0)],none⟩,
 oS 4 6 22,
 oM 7 23])
 (.seq (.seq (rg [oM 24 7,
 oD 25 .neq 24 0])
 (.cond (.s 25) (.seq (rg [⟨some 26,.build [(.slice none 0 0),(.slice none 0 0),(.slice none 0 0)] [],none⟩,
 oM 27 7,
 oS 3 4 26,
 oS 1 5 27])
 (.ret))
 (.skip)))
 (.seq (rg [oN 29 3 3,
 oU 30 89 29,
 oM 28 30,
 oX 31 28 0,
 oX 32 28 1,
 ⟨some 8,.alloc [(.slice none 0 0),(.slice none 0 0),(.slice none 0 0),(.slice none 0 0)],none⟩,
 oS 4 8 31,
 oM 7 32])
 (.seq (.seq (rg [oM 33 7,
 oD 34 .neq 33 0])
 (.cond (.s 34) (.seq (rg [⟨some 35,.build [(.slice none 0 0),(.slice none 0 0),(.slice none 0 0)] [],none⟩,
 oM 36 7,
 oS 3 4 35,
 oS 1 5 36])
 (.ret))
 (.skip)))
 (.seq (.seq (rg [oN 37 4 6,
 oN 38 4 8,
 oV 39 90 37 38,
 ⟨some 40,.un .not (.s 39),none⟩])
 (.cond (.s 40) (.seq (rg [⟨some 41,.build [(.slice none 0 0),(.slice none 0 0),(.slice none 0 0)] [],none⟩,
 oS 3 4 41,
 ⟨none,.store 1 (.s 5) (.c (.int .i64 2)),none⟩])
 (.ret))
 (.skip)))
 (.seq (rg [oN 43 4 6,
 oN 44 4 8,
 oV 45 91 43 44,
 oM 42 45,
 oX 46 42 0,
 oX 47 42 1,
 oM 9 46,
 oM 10 47])
 (.seq (rg [oM 49 10,
 oU 50 92 49,
 oM 48 50,
 oX 51 48 0,
 oX 52 48 1,
 oM 11 51,
 oM 7 52])
 (.seq (.seq (rg [oM 53 7,
 oD 54 .neq 53 0])
 (.cond (.s 54) (.seq (rg [⟨some 55,.build [(.slice none 0 0),(.slice none 0 0),(.slice none 0 0)] [],none⟩,
 oS 3 4 55,
 ⟨none,.store 1 (.s 5) (.c (.int .i64 3)),none⟩])
 (.ret))
 (.skip)))
 (.seq (rg [oM 56 11,
 ⟨some 57,.mk 1 8 [(.int .i64 0)] (.s 56) (.s 56),none⟩,
 ⟨some 12,.alloc [(.slice none 0 0)],none⟩,
 oS 1 12 57])
 (.seq (.seq (rg [oM 58 10,
 oN 59 4 6,
 oM 60 9,
 oV 61 94 59 60,
 oV 62 93 58 61])
 (.block 0 (.zec (.s 62) [63,64] (.seq (rg [oM 13 63])
 (rg [oM 14 64]))
 (.block 1 (.reg true false [oL 65 12,
 oM 66 13,
 oF 67 0 6,
 oF 68 2 67,
 oL 69 68,
 oM 70 14,
 oI 71 1 69 70,
 oL 72 71,
 oI 73 1 65 66,
 oS 1 73 72])))))
 (.seq (.seq (rg [oM 74 10,
 oN 75 4 8,
 oM 76 9,
 oV 77 94 75 76,
 oV 78 93 74 77])
 (.block 2 (.zec (.s 78) [79,80] (.seq (rg [oM 15 79])
 (rg [oM 16 80]))
 (.block 3 (.seq (.reg true false [oL 82 12,
 oM 83 15,
 oI 84 1 82 83,
 oL 85 84,
 ⟨some 86,.conv .u64 (.s 85),none⟩,
 oF 87 0 8,
 oF 88 2 87,
 oL 89 88,
 oM 90 16,
 oI 91 1 89 90,
 oL 92 91,
 ⟨some 93,.conv .u64 (.s 92),none⟩,
 oV 94 95 86 93,
 oM 81 94,
 oX 95 81 0,
 oX 96 81 1,
 oM 17 95,
 oM 18 96])
 (.seq (.seq (rg [oM 97 17,
 oDu 98 .neq 97 0,
 oM 99 98,
 oMg 100 18 99 false,
 ⟨some 101,.bin .gtr (.s 100) (.c (.int .u64 4611686018427387903)),some (99,false)⟩,
 oP 102 99 101])
 (.cond (.s 102) (.seq (rg [⟨some 103,.build [(.slice none 0 0),(.slice none 0 0),(.slice none 0 0)] [],none⟩,
 oS 3 4 103,
 ⟨none,.store 1 (.s 5) (.c (.int .i64 6)),none⟩])
 (.ret))
 (.skip)))
 (rg [oL 104 12,
 oM 105 15,
 oM 106 18,
 ⟨some 107,.conv .i64 (.s 106),none⟩,
 oI 108 1 104 105,
 oS 1 108 107])))))))
 (.seq (rg [oM 109 9,
 oM 110 10,
 oL 111 12,
 ⟨some 112,.build [(.slice none 0 0),(.slice none 0 0),(.slice none 0 0)] [(0,1,(.s 109)),(1,1,(.s 110)),(2,1,(.s 111))],none⟩,
 oS 3 4 112,
 ⟨none,.store 1 (.s 5) (.c (.int .i64 0)),none⟩])
 (.ret)))))))))))))
theorem ziY:ziU mC 25=some (113,zhp,[.cell 4 (some 3),.cell 5 none],false):=zbu (by kernel_rfl)
theorem zkj{p0:S_api_Factor}{p1:S_api_Factor}{r:(S_api_Factor×Int)}(h:zcc p0 p1=some r):Lx.Fn mC 25 [(.agg [(fzE false (eI .i64) p0.vars),(fzE false (eI .i64) p0.zad),(fzE false (eI .i64) p0.w)]),(.agg [(fzE false (eI .i64) p1.vars),(fzE false (eI .i64) p1.zad),(fzE false (eI .i64) p1.w)])] (.tup [(.agg [(fzE true (eI .i64) r.1.vars),(fzE true (eI .i64) r.1.zad),(fzE true (eI .i64) r.1.w)]),(dI r.2)]):=by
 refine Fn.of ziY (zbo rfl) (qaf rfl) ?_;unfold zcc at h;simp only[zhp,zjR];refine zaa ?_;obtain⟨r1,g2,h⟩:=bind_some h;try simp only[rnA,Nat.reduceEqDiff,Nat.reduceLT,Nat.reduceAdd,Nat.reduceLeDiff,reduceCtorEq]
 refine EvL.fnS (zfT g2) rfl rfl (.cons (Mzs.agg (.cons (zcC _ _ (fun h=>by cases h<;>contradiction)) (.cons (zcC _ _ (fun h=>by cases h<;>contradiction)) (.cons (zcC _ _ (fun h=>by cases h<;>contradiction)) .nil)))) .nil) ⟨⟨(zaJ _ _),(zaJ _ _),(zaJ _ _),qdb⟩,qdb⟩ ⟨⟨(zaJ _ _),(zaJ _ _),(zaJ _ _),(zaJ _ _),qdb⟩,qdb,qdb⟩ ?_;try simp only[rnA,Nat.reduceEqDiff,Nat.reduceLT,Nat.reduceAdd,Nat.reduceLeDiff,reduceCtorEq]
 cases c3:(r1.2 == 0)
 ·rw[c3,cond_false]at h;try simp only[rnA,Nat.reduceEqDiff,Nat.reduceLT,Nat.reduceAdd,Nat.reduceLeDiff,reduceCtorEq]
  replace h:=qac h; subst h;exact zcr.ret rfl (Snp.zeU (.cons (.zd9 (.cons (zap (eI .i64)) (.cons (zap (eI .i64)) (.cons (zap (eI .i64)) .nil)))) (.cons (.lit _) .nil)))
 rw[c3,cond_true]at h;obtain⟨r4,g5,h⟩:=bind_some h;try simp only[rnA,Nat.reduceEqDiff,Nat.reduceLT,Nat.reduceAdd,Nat.reduceLeDiff,reduceCtorEq]
 refine EvL.fnS (zfT g5) rfl rfl (.cons (Mzs.agg (.cons (zcC _ _ (fun h=>by cases h<;>contradiction)) (.cons (zcC _ _ (fun h=>by cases h<;>contradiction)) (.cons (zcC _ _ (fun h=>by cases h<;>contradiction)) .nil)))) .nil) ⟨⟨(zaJ _ _),(zaJ _ _),(zaJ _ _),qdb⟩,qdb⟩ ⟨⟨(zaJ _ _),(zaJ _ _),(zaJ _ _),(zaJ _ _),qdb⟩,qdb,qdb⟩ ?_;try simp only[rnA,Nat.reduceEqDiff,Nat.reduceLT,Nat.reduceAdd,Nat.reduceLeDiff,reduceCtorEq]
 cases c6:(r4.2 == 0)
 ·rw[c6,cond_false]at h;try simp only[rnA,Nat.reduceEqDiff,Nat.reduceLT,Nat.reduceAdd,Nat.reduceLeDiff,reduceCtorEq]
  replace h:=qac h; subst h;exact zcr.ret rfl (Snp.zeU (.cons (.zd9 (.cons (zap (eI .i64)) (.cons (zap (eI .i64)) (.cons (zap (eI .i64)) .nil)))) (.cons (.lit _) .nil)))
 rw[c6,cond_true]at h;obtain⟨r7,g8,h⟩:=bind_some h;try simp only[rnA,Nat.reduceEqDiff,Nat.reduceLT,Nat.reduceAdd,Nat.reduceLeDiff,reduceCtorEq]
 refine EvL.fn (zio g8) rfl rfl (.cons (.zd9 (.cons (zah _ _ (fun h=>nomatch h)) (.cons (zah _ _ (fun h=>nomatch h)) (.cons (zah _ _ (fun h=>nomatch h)) (.cons (zah _ _ (fun h=>nomatch h)) .nil))))) (.cons (.zd9 (.cons (zah _ _ (fun h=>nomatch h)) (.cons (zah _ _ (fun h=>nomatch h)) (.cons (zah _ _ (fun h=>nomatch h)) (.cons (zah _ _ (fun h=>nomatch h)) .nil))))) .nil)) ?_;try simp only[rnA,Nat.reduceEqDiff,Nat.reduceLT,reduceCtorEq]
 cases c9:r7
 ·rw[c9,cond_false]at h;try simp only[rnA,Nat.reduceEqDiff,Nat.reduceLT,Nat.reduceAdd,Nat.reduceLeDiff,reduceCtorEq]
  replace h:=qac h; subst h;exact zcr.ret rfl (Snp.zeU (.cons (.zd9 (.cons (zap (eI .i64)) (.cons (zap (eI .i64)) (.cons (zap (eI .i64)) .nil)))) (.cons (.lit _) .nil)))
 rw[c9,cond_true]at h;obtain⟨r10,g11,h⟩:=bind_some h;try simp only[rnA,Nat.reduceEqDiff,Nat.reduceLT,Nat.reduceAdd,Nat.reduceLeDiff,reduceCtorEq]
 refine EvL.fn (zhZ g11) rfl rfl (.cons (.zd9 (.cons (zah _ _ (fun h=>nomatch h)) (.cons (zah _ _ (fun h=>nomatch h)) (.cons (zah _ _ (fun h=>nomatch h)) (.cons (zah _ _ (fun h=>nomatch h)) .nil))))) (.cons (.zd9 (.cons (zah _ _ (fun h=>nomatch h)) (.cons (zah _ _ (fun h=>nomatch h)) (.cons (zah _ _ (fun h=>nomatch h)) (.cons (zah _ _ (fun h=>nomatch h)) .nil))))) .nil)) ?_;obtain⟨r12,g13,h⟩:=bind_some h;try simp only[rnA,Nat.reduceEqDiff,Nat.reduceLT,reduceCtorEq]
 refine EvL.fn (zeF g13) rfl rfl (.cons (zah _ _ (fun h=>nomatch h)) .nil) ?_;try simp only[rnA,Nat.reduceEqDiff,Nat.reduceLT,reduceCtorEq]
 cases c14:(r12.2 == 0)
 ·rw[c14,cond_false]at h;try simp only[rnA,Nat.reduceEqDiff,Nat.reduceLT,Nat.reduceAdd,Nat.reduceLeDiff,reduceCtorEq]
  replace h:=qac h; subst h;exact zcr.ret rfl (Snp.zeU (.cons (.zd9 (.cons (zap (eI .i64)) (.cons (zap (eI .i64)) (.cons (zap (eI .i64)) .nil)))) (.cons (.lit _) .nil)))
 rw[c14,cond_true]at h;obtain⟨y15,g16,h⟩:=bind_some h;obtain⟨r17,g18,h⟩:=bind_some h;try simp only[rnA,Nat.reduceEqDiff,Nat.reduceLT,Nat.reduceAdd,Nat.reduceLeDiff,reduceCtorEq,(zaC g16).1.1,(zaC g16).1.2,qbU,(show List.replicate (Int.toNat r12.1) [(dI 0)]=y15.map ((eI .i64).c true)from zb2 g16 ((eI .i64).c true))]
 refine EvL.fn (zdt g18) rfl rfl (.cons (.zd9 (.cons (zah _ _ (fun h=>nomatch h)) (.cons (zah _ _ (fun h=>nomatch h)) (.cons (zah _ _ (fun h=>nomatch h)) (.cons (zah _ _ (fun h=>nomatch h)) .nil))))) (.cons (zah _ _ (fun h=>nomatch h)) .nil)) ?_;obtain⟨r19,g20,h⟩:=bind_some h;try simp only[rnA,Nat.reduceLT]
 refine EvL.fnS (zeu g20) rfl rfl (.cons (zcC _ _ (fun h=>by cases h<;>contradiction)) (.cons (zcC _ _ (fun h=>by cases h<;>contradiction)) .nil)) ⟨(zaJ _ _),(zaJ _ _),qdb⟩ ⟨qdb,⟨⟨rfl,zaJ _ _,qdb⟩,⟨rfl,zaJ _ _,qdb⟩,qdb⟩⟩ ?_;try simp only[rnA,Nat.reduceLT]
 obtain⟨u21,g22,h⟩:=bind_some h;obtain⟨o1,j1,h⟩:=bind_some h;obtain⟨T1,hT1⟩:∃ T:(List Int)→List LB,T=(fun a=>[.cells [(fzE false (eI .i64) p0.vars),(fzE false (eI .i64) p0.zad),(fzE false (eI .i64) p0.w)],.cells [(fzE false (eI .i64) p1.vars),(fzE false (eI .i64) p1.zad),(fzE false (eI .i64) p1.w)],.cells [zaU,zaU,zaU],.cells [(dI 0)],.cells [(fzE false (eI .i64) r1.1.factor.vars),(fzE false (eI .i64) r1.1.factor.zad),(fzE false (eI .i64) r1.1.factor.w),(fzE false (eI .i64) r1.1.steps)],.cells [(fzE false (eI .i64) r4.1.factor.vars),(fzE false (eI .i64) r4.1.factor.zad),(fzE false (eI .i64) r4.1.factor.w),(fzE false (eI .i64) r4.1.steps)],.els 1 (a.map ((eI .i64).c true)),.cells [(.sl 6 0 1 (Int.toNat r12.1) (some (Int.toNat r12.1)) (Int.toNat r12.1))]]):=⟨_,rfl⟩;refine EvL.zl2 (S':=⟨113,[(4,(.ptr 2 0)),(5,(.ptr 3 0)),(6,(.ptr 4 0)),(8,(.ptr 5 0)),(9,(fzE true (eI .i64) r10.1)),(10,(fzE true (eI .i64) r10.2)),(12,(.ptr 7 0)),(62,(.clo 135 [] [(.fptr false ((eL (eI .i64)).c false r19.1)),(.fptr false ((eL (eI .i64)).c false r19.2))]))],T1 y15⟩) (by rw[hT1]; exact wm0 [.k,.k,.k,.k,.k,.k,.k,.k] ⟨MB.cs ⟨qdb,qdb,qdb,qdb⟩,⟨MB.cs ⟨qdb,qdb,qdb,qdb⟩,⟨MB.cs ⟨qdb,qdb,qdb,qdb⟩,⟨MB.cs ⟨qdb,qdb⟩,⟨MB.cs ⟨qdb,qdb,qdb,qdb,qdb⟩,⟨MB.cs ⟨qdb,qdb,qdb,qdb,qdb⟩,⟨MB.es (eI .i64) true y15,⟨MB.cs ⟨rfl,qdb⟩,qdb⟩⟩⟩⟩⟩⟩⟩⟩) ?_;refine EvL.ze4 (n0:=8) (zd6 g22) rfl (bm:=.block 1 (.reg true false [⟨some 65,.load none (.s 12),none⟩,⟨some 66,.mov (.s 13),none⟩,⟨some 67,.fld 0 (.s 6),none⟩,⟨some 68,.fld 2 (.s 67),none⟩,⟨some 69,.load none (.s 68),none⟩,⟨some 70,.mov (.s 14),none⟩,⟨some 71,.idxS 1 (.s 69) (.s 70),none⟩,⟨some 72,.load none (.s 71),none⟩,⟨some 73,.idxS 1 (.s 65) (.s 66),none⟩,⟨none,.store 1 (.s 73) (.s 72),none⟩])) rfl T1 (fun i a=>zbV r1 r12 (u21.drop i) a=some o1∧a.length=(Int.toNat r12.1)) (fun x L1=>match x with | .normal=>∃ a,o1=a∧a.length=(Int.toNat r12.1)∧L1=T1 a | .ret=>L1.length=8∧ze0 (8+1) L1∧(zcr [.cell 4 (some 3),.cell 5 none] ((.tup [(.agg [(fzE true (eI .i64) r.1.vars),(fzE true (eI .i64) r.1.zad),(fzE true (eI .i64) r.1.w)]),(dI r.2)]))) .ret ⟨113,[(4,(.ptr 2 0)),(5,(.ptr 3 0)),(6,(.ptr 4 0)),(8,(.ptr 5 0)),(9,(fzE true (eI .i64) r10.1)),(10,(fzE true (eI .i64) r10.2)),(12,(.ptr 7 0)),(62,(.clo 135 [] [(.fptr false ((eL (eI .i64)).c false r19.1)),(.fptr false ((eL (eI .i64)).c false r19.2))]))],L1 ++ [.lost]⟩| _=>False) y15 ?_ (qaz _) ?_ ?_ ?_ (fun d L1 hx=>hx.elim) ?_ ?_ ?_ ?_ ?_ ?_
 ·intro a; rw[hT1]; rfl
 ·exact⟨(qaf rfl),(qaf rfl),(qaf rfl),(qaf rfl),qdb,qdb,(qaf rfl),⟨qdb,⟨qdb,qdb,qdb⟩⟩,qdb⟩
 ·intro a; rw[hT1]; exact⟨⟨qdb,qdb,qdb,qdb⟩,⟨qdb,qdb,qdb,qdb⟩,⟨qdb,qdb,qdb,qdb⟩,⟨qdb,qdb⟩,⟨qdb,qdb,qdb,qdb,qdb⟩,⟨qdb,qdb,qdb,qdb,qdb⟩,(zeh (eI .i64) _ _ _),⟨(qaf rfl),qdb⟩,qdb⟩
 ·intro x L1 hx;cases x with
  | normal=>obtain⟨a,_,_,rfl⟩:=hx; exact⟨by rw[hT1]; rfl,by rw[hT1]; exact⟨⟨qdb,qdb,qdb,qdb⟩,⟨qdb,qdb,qdb,qdb⟩,⟨qdb,qdb,qdb,qdb⟩,⟨qdb,qdb⟩,⟨qdb,qdb,qdb,qdb,qdb⟩,⟨qdb,qdb,qdb,qdb,qdb⟩,(zeh (eI .i64) _ _ _),⟨(qaf rfl),qdb⟩,qdb⟩⟩
  | ret=>exact⟨hx.1,hx.2.1⟩
  | exit id=>exact hx.elim
  | panic d=>exact hx.elim
 ·exact⟨j1,zby g16⟩
 ·rintro i l6 y23 args G lpF hy ⟨hi1,el6⟩ ⟨rfl,rfl⟩ hkin;rw[zgS hy]at hi1;simp only[zbV]at hi1;refine⟨_,_,rfl,rfl,?_⟩;rw[congrFun hT1 l6];refine zaa ?_;obtain⟨x24,g25,hi1⟩:=bind_some hi1;obtain⟨x26,g27,hi1⟩:=bind_some hi1;obtain⟨y28,g29,hi1⟩:=bind_some hi1;try simp only[rnA,Nat.reduceEqDiff,Nat.reduceLT,Nat.reduceAdd,Nat.reduceLeDiff,zao (n:=1) (e:=(eI .i64)) rfl g25,el6,zbl g27,(show y23.1<(((Int.toNat r12.1):Nat):Int)from el6 ▸ zbm g27),zaR g27 ((eI .i64).c true),(show(l6.map ((eI .i64).c true)).set y23.1.toNat [(dI x24)]=y28.map ((eI .i64).c true)from zbs g29 ((eI .i64).c true))]
  exact⟨T1 y28,by rw[hT1]; rfl,by rw[hT1]; exact zbC.mK [.k,.k,.k,.k,.k,.k,.k,.k,.k,.k] rfl rfl qdb ⟨MB.cs ⟨qdb,qdb,qdb,qdb⟩,⟨MB.cs ⟨qdb,qdb,qdb,qdb⟩,⟨MB.cs ⟨qdb,qdb,qdb,qdb⟩,⟨MB.cs ⟨qdb,qdb⟩,⟨MB.cs ⟨qdb,qdb,qdb,qdb,qdb⟩,⟨MB.cs ⟨qdb,qdb,qdb,qdb,qdb⟩,⟨MB.es (eI .i64) true y28,⟨MB.cs ⟨rfl,qdb⟩,⟨.same (hkin _ (by decide)),⟨MB.same (zfx _ _ _ _),qdb⟩⟩⟩⟩⟩⟩⟩⟩⟩⟩,y28,⟨hi1,(zbg g29).trans el6⟩,rfl⟩
 ·rintro l6 ⟨hi1,el6⟩;rw[qbh]at hi1;simp only[zbV]at hi1;exact⟨l6,(qac hi1).symm,el6,rfl⟩
 ·rintro _ ⟨l6,oeq,el6,rfl⟩;have oeq2:=oeq.symm;subst oeq2;rw[congrFun hT1 l6];refine zaa ?_;obtain⟨r30,g31,h⟩:=bind_some h;try simp only[rnA,Nat.reduceEqDiff,Nat.reduceLT,Nat.reduceAdd,Nat.reduceLeDiff]
  refine EvL.fn (zdt g31) rfl rfl (.cons (.zd9 (.cons (zah _ _ (fun h=>nomatch h)) (.cons (zah _ _ (fun h=>nomatch h)) (.cons (zah _ _ (fun h=>nomatch h)) (.cons (zah _ _ (fun h=>nomatch h)) .nil))))) (.cons (zah _ _ (fun h=>nomatch h)) .nil)) ?_;obtain⟨r32,g33,h⟩:=bind_some h;try simp only[rnA,Nat.reduceLT]
  refine EvL.fnS (zeu g33) rfl rfl (.cons (zcC _ _ (fun h=>by cases h<;>contradiction)) (.cons (zcC _ _ (fun h=>by cases h<;>contradiction)) .nil)) ⟨(zaJ _ _),(zaJ _ _),qdb⟩ ⟨qdb,⟨⟨rfl,zaJ _ _,qdb⟩,⟨rfl,zaJ _ _,qdb⟩,qdb⟩⟩ ?_;try simp only[rnA,Nat.reduceLT]
  obtain⟨u34,g35,h⟩:=bind_some h;obtain⟨o4,j4,h⟩:=bind_some h;obtain⟨T4,hT4⟩:∃ T:(List Int)→List LB,T=(fun a=>[.cells [(fzE false (eI .i64) p0.vars),(fzE false (eI .i64) p0.zad),(fzE false (eI .i64) p0.w)],.cells [(fzE false (eI .i64) p1.vars),(fzE false (eI .i64) p1.zad),(fzE false (eI .i64) p1.w)],.cells [zaU,zaU,zaU],.cells [(dI 0)],.cells [(fzE false (eI .i64) r1.1.factor.vars),(fzE false (eI .i64) r1.1.factor.zad),(fzE false (eI .i64) r1.1.factor.w),(fzE false (eI .i64) r1.1.steps)],.cells [(fzE false (eI .i64) r4.1.factor.vars),(fzE false (eI .i64) r4.1.factor.zad),(fzE false (eI .i64) r4.1.factor.w),(fzE false (eI .i64) r4.1.steps)],.els 1 (a.map ((eI .i64).c true)),.cells [(.sl 6 0 1 (Int.toNat r12.1) (some (Int.toNat r12.1)) (Int.toNat r12.1))],.lost]):=⟨_,rfl⟩;refine EvL.zl2 (S':=⟨113,[(4,(.ptr 2 0)),(5,(.ptr 3 0)),(8,(.ptr 5 0)),(9,(fzE true (eI .i64) r10.1)),(10,(fzE true (eI .i64) r10.2)),(12,(.ptr 7 0)),(78,(.clo 135 [] [(.fptr false ((eL (eI .i64)).c false r32.1)),(.fptr false ((eL (eI .i64)).c false r32.2))]))],T4 l6⟩) (by rw[hT4]; exact wm0 [.k,.k,.k,.k,.k,.k,.k,.k,.k] ⟨MB.cs ⟨qdb,qdb,qdb,qdb⟩,⟨MB.cs ⟨qdb,qdb,qdb,qdb⟩,⟨MB.cs ⟨qdb,qdb,qdb,qdb⟩,⟨MB.cs ⟨qdb,qdb⟩,⟨MB.cs ⟨qdb,qdb,qdb,qdb,qdb⟩,⟨MB.cs ⟨qdb,qdb,qdb,qdb,qdb⟩,⟨MB.es (eI .i64) true l6,⟨MB.cs ⟨rfl,qdb⟩,⟨MB.same trivial,qdb⟩⟩⟩⟩⟩⟩⟩⟩⟩) ?_;refine EvL.ze4 (n0:=9) (zd6 g35) rfl (bm:=.block 3 (.seq (.reg true false [⟨some 82,.load none (.s 12),none⟩,⟨some 83,.mov (.s 15),none⟩,⟨some 84,.idxS 1 (.s 82) (.s 83),none⟩,⟨some 85,.load none (.s 84),none⟩,⟨some 86,.conv .u64 (.s 85),none⟩,⟨some 87,.fld 0 (.s 8),none⟩,⟨some 88,.fld 2 (.s 87),none⟩,⟨some 89,.load none (.s 88),none⟩,⟨some 90,.mov (.s 16),none⟩,⟨some 91,.idxS 1 (.s 89) (.s 90),none⟩,⟨some 92,.load none (.s 91),none⟩,⟨some 93,.conv .u64 (.s 92),none⟩,⟨some 94,.call 95 [(.s 86),(.s 93)],none⟩,⟨some 81,.mov (.s 94),none⟩,⟨some 95,.ext (.s 81) 0,none⟩,⟨some 96,.ext (.s 81) 1,none⟩,⟨some 17,.mov (.s 95),none⟩,⟨some 18,.mov (.s 96),none⟩]) (.seq (.seq (.scope (.reg false false [⟨some 97,.mov (.s 17),none⟩,⟨some 98,.bin .neq (.s 97) (.c (.int .u64 0)),none⟩,⟨some 99,.mov (.s 98),none⟩,⟨some 100,.mov (.s 18),some (99,false)⟩,⟨some 101,.bin .gtr (.s 100) (.c (.int .u64 4611686018427387903)),some (99,false)⟩,⟨some 102,.pick (.s 99) (.c (.bool true)) (.s 101),none⟩])) (.cond (.s 102) (.seq (.reg false false [⟨some 103,.build [(.slice none 0 0),(.slice none 0 0),(.slice none 0 0)] [],none⟩,⟨none,.store 3 (.s 4) (.s 103),none⟩,⟨none,.store 1 (.s 5) (.c (.int .i64 6)),none⟩]) (.ret)) (.skip))) (.reg false false [⟨some 104,.load none (.s 12),none⟩,⟨some 105,.mov (.s 15),none⟩,⟨some 106,.mov (.s 18),none⟩,⟨some 107,.conv .i64 (.s 106),none⟩,⟨some 108,.idxS 1 (.s 104) (.s 105),none⟩,⟨none,.store 1 (.s 108) (.s 107),none⟩])))) rfl T4 (fun i a=>zbZ r4 r12 (u34.drop i) a=some o4∧a.length=(Int.toNat r12.1)) (fun x L1=>match x with | .normal=>∃ a,o4=.go a∧a.length=(Int.toNat r12.1)∧L1=T4 a | .ret=>L1.length=9∧ze0 (9+1) L1∧(zcr [.cell 4 (some 3),.cell 5 none] ((.tup [(.agg [(fzE true (eI .i64) r.1.vars),(fzE true (eI .i64) r.1.zad),(fzE true (eI .i64) r.1.w)]),(dI r.2)]))) .ret ⟨113,[(4,(.ptr 2 0)),(5,(.ptr 3 0)),(8,(.ptr 5 0)),(9,(fzE true (eI .i64) r10.1)),(10,(fzE true (eI .i64) r10.2)),(12,(.ptr 7 0)),(78,(.clo 135 [] [(.fptr false ((eL (eI .i64)).c false r32.1)),(.fptr false ((eL (eI .i64)).c false r32.2))]))],L1 ++ [.lost]⟩| _=>False) l6 ?_ (qaz _) ?_ ?_ ?_ (fun d L1 hx=>hx.elim) ?_ ?_ ?_ ?_ ?_ ?_
  ·intro a; rw[hT4]; rfl
  ·exact⟨(qaf rfl),(qaf rfl),(qaf rfl),qdb,qdb,(qaf rfl),⟨qdb,⟨qdb,qdb,qdb⟩⟩,qdb⟩
  ·intro a; rw[hT4]; exact⟨⟨qdb,qdb,qdb,qdb⟩,⟨qdb,qdb,qdb,qdb⟩,⟨qdb,qdb,qdb,qdb⟩,⟨qdb,qdb⟩,⟨qdb,qdb,qdb,qdb,qdb⟩,⟨qdb,qdb,qdb,qdb,qdb⟩,(zeh (eI .i64) _ _ _),⟨(qaf rfl),qdb⟩,qdb,qdb⟩
  ·intro x L1 hx;cases x with
   | normal=>obtain⟨a,_,_,rfl⟩:=hx; exact⟨by rw[hT4]; rfl,by rw[hT4]; exact⟨⟨qdb,qdb,qdb,qdb⟩,⟨qdb,qdb,qdb,qdb⟩,⟨qdb,qdb,qdb,qdb⟩,⟨qdb,qdb⟩,⟨qdb,qdb,qdb,qdb,qdb⟩,⟨qdb,qdb,qdb,qdb,qdb⟩,(zeh (eI .i64) _ _ _),⟨(qaf rfl),qdb⟩,qdb,qdb⟩⟩
   | ret=>exact⟨hx.1,hx.2.1⟩
   | exit id=>exact hx.elim
   | panic d=>exact hx.elim
  ·exact⟨j4,el6⟩
  ·rintro i l6' y36 args G lpF hy ⟨hi4,el6'⟩ ⟨rfl,rfl⟩ hkin;rw[zgS hy]at hi4;simp only[zbZ]at hi4;refine⟨_,_,rfl,rfl,?_⟩;rw[congrFun hT4 l6'];refine zaa ?_;obtain⟨x37,g38,hi4⟩:=bind_some hi4;obtain⟨x39,g40,hi4⟩:=bind_some hi4;obtain⟨r41,g42,hi4⟩:=bind_some hi4;try simp only[rnA,Nat.reduceEqDiff,Nat.reduceLT,Nat.reduceAdd,el6',zbl g38,(show y36.1<(((Int.toNat r12.1):Nat):Int)from el6' ▸ zbm g38),zaR g38 ((eI .i64).c true),zao (n:=1) (e:=(eI .i64)) rfl g40]
   refine EvL.fn (zkZ g42) rfl rfl (.cons (.lit _) (.cons (.lit _) .nil)) ?_;try simp only[rnA,Nat.reduceEqDiff,Nat.reduceLT]
   obtain⟨o5,j5,hi4⟩:=bind_some hi4;obtain⟨T5,hT5⟩:=mkT fun a:Bool=>⟨113,[(4,(.ptr 2 0)),(5,(.ptr 3 0)),(12,(.ptr 7 0)),(15,(dI y36.1)),(18,(dU r41.2)),(102,(dB a))],[.cells [(fzE false (eI .i64) p0.vars),(fzE false (eI .i64) p0.zad),(fzE false (eI .i64) p0.w)],.cells [(fzE false (eI .i64) p1.vars),(fzE false (eI .i64) p1.zad),(fzE false (eI .i64) p1.w)],.cells [zaU,zaU,zaU],.cells [(dI 0)],.cells [(fzE false (eI .i64) r1.1.factor.vars),(fzE false (eI .i64) r1.1.factor.zad),(fzE false (eI .i64) r1.1.factor.w),(fzE false (eI .i64) r1.1.steps)],.cells [(fzE false (eI .i64) r4.1.factor.vars),(fzE false (eI .i64) r4.1.factor.zad),(fzE false (eI .i64) r4.1.factor.w),(fzE false (eI .i64) r4.1.steps)],.els 1 (l6'.map ((eI .i64).c true)),.cells [(.sl 6 0 1 (Int.toNat r12.1) (some (Int.toNat r12.1)) (Int.toNat r12.1))],.lost,lpF,.els 1 (y36.2.2.map ((eI .i64).c true))]⟩
   refine EvL.jn T5 (fun a=>a=o5) ?_ ?_
   ·refine zaa ?_;try simp only[rnA,Nat.reduceEqDiff,Nat.reduceLT]
    cases c43:(r41.1 == 0)
    ·rw[c43,cond_false]at j5;try simp only[rnA,Nat.reduceEqDiff,Nat.reduceLT]
     replace j5:=qac j5; subst j5;exact⟨_,rfl,by rw[hT5]; exact zbC.mK (k0:=11) [.k,.k,.k,.k,.k,.k,.k,.k,.k,.k,.k] rfl rfl (msq (msq (msq (msq (msq (msq trivial)))))) ⟨MB.cs ⟨qdb,qdb,qdb,qdb⟩,⟨MB.cs ⟨qdb,qdb,qdb,qdb⟩,⟨MB.cs ⟨qdb,qdb,qdb,qdb⟩,⟨MB.cs ⟨qdb,qdb⟩,⟨MB.cs ⟨qdb,qdb,qdb,qdb,qdb⟩,⟨MB.cs ⟨qdb,qdb,qdb,qdb,qdb⟩,⟨MB.es (eI .i64) true l6',⟨MB.cs ⟨rfl,qdb⟩,⟨MB.same trivial,⟨.same (hkin _ (by decide)),⟨MB.es (eI .i64) true y36.2.2,qdb⟩⟩⟩⟩⟩⟩⟩⟩⟩⟩⟩⟩
    rw[c43,cond_true]at j5;try simp only[rnA,Nat.reduceEqDiff,Nat.reduceLT]
    replace j5:=qac j5; subst j5;exact⟨_,rfl,by rw[hT5]; exact zbC.mK (k0:=11) [.k,.k,.k,.k,.k,.k,.k,.k,.k,.k,.k] rfl rfl (msq (msq (msq (msq (msq (msq trivial)))))) ⟨MB.cs ⟨qdb,qdb,qdb,qdb⟩,⟨MB.cs ⟨qdb,qdb,qdb,qdb⟩,⟨MB.cs ⟨qdb,qdb,qdb,qdb⟩,⟨MB.cs ⟨qdb,qdb⟩,⟨MB.cs ⟨qdb,qdb,qdb,qdb,qdb⟩,⟨MB.cs ⟨qdb,qdb,qdb,qdb,qdb⟩,⟨MB.es (eI .i64) true l6',⟨MB.cs ⟨rfl,qdb⟩,⟨MB.same trivial,⟨.same (hkin _ (by decide)),⟨MB.es (eI .i64) true y36.2.2,qdb⟩⟩⟩⟩⟩⟩⟩⟩⟩⟩⟩⟩
   rintro v102 rfl;rw[congrFun hT5 v102];refine zaa ?_;try simp only[rnA,Nat.reduceEqDiff]
   cases c44:v102
   ·rw[c44,cond_false]at hi4;obtain⟨x45,g46,hi4⟩:=bind_some hi4;obtain⟨y47,g48,hi4⟩:=bind_some hi4;try simp only[rnA,Nat.reduceEqDiff,Nat.reduceLT,Nat.reduceLeDiff,el6',zbl g46,(show y36.1<(((Int.toNat r12.1):Nat):Int)from el6' ▸ zbm g46),zaR g46 ((eI .i64).c true),(show(l6'.map ((eI .i64).c true)).set y36.1.toNat [(dI (w64 r41.2))]=y47.map ((eI .i64).c true)from zbs g48 ((eI .i64).c true))]
    exact⟨T4 y47,by rw[hT4]; rfl,by rw[hT4]; exact zbC.mK [.k,.k,.k,.k,.k,.k,.k,.k,.k,.k,.k] rfl rfl qdb ⟨MB.cs ⟨qdb,qdb,qdb,qdb⟩,⟨MB.cs ⟨qdb,qdb,qdb,qdb⟩,⟨MB.cs ⟨qdb,qdb,qdb,qdb⟩,⟨MB.cs ⟨qdb,qdb⟩,⟨MB.cs ⟨qdb,qdb,qdb,qdb,qdb⟩,⟨MB.cs ⟨qdb,qdb,qdb,qdb,qdb⟩,⟨MB.es (eI .i64) true y47,⟨MB.cs ⟨rfl,qdb⟩,⟨MB.same trivial,⟨.same (hkin _ (by decide)),⟨MB.same (zfx _ _ _ _),qdb⟩⟩⟩⟩⟩⟩⟩⟩⟩⟩⟩,y47,⟨hi4,(zbg g48).trans el6'⟩,rfl⟩
   rw[c44,cond_true]at hi4;try simp only[rnA,Nat.reduceEqDiff,Nat.reduceLT,Nat.reduceAdd,Nat.reduceLeDiff]
   replace hi4:=qac hi4; subst hi4;dsimp only at h;replace h:=qac h; subst h;exact⟨[.cells [(fzE false (eI .i64) p0.vars),(fzE false (eI .i64) p0.zad),(fzE false (eI .i64) p0.w)],.cells [(fzE false (eI .i64) p1.vars),(fzE false (eI .i64) p1.zad),(fzE false (eI .i64) p1.w)],.cells [zaU,zaU,zaU],.cells [(dI 6)],.cells [(fzE false (eI .i64) r1.1.factor.vars),(fzE false (eI .i64) r1.1.factor.zad),(fzE false (eI .i64) r1.1.factor.w),(fzE false (eI .i64) r1.1.steps)],.cells [(fzE false (eI .i64) r4.1.factor.vars),(fzE false (eI .i64) r4.1.factor.zad),(fzE false (eI .i64) r4.1.factor.w),(fzE false (eI .i64) r4.1.steps)],.els 1 (l6'.map ((eI .i64).c true)),.cells [(.sl 6 0 1 (Int.toNat r12.1) (some (Int.toNat r12.1)) (Int.toNat r12.1))],.lost],rfl,zbC.mK [.k,.k,.k,.k,.k,.k,.k,.k,.k,.k,.k] rfl rfl qdb ⟨MB.cs ⟨qdb,qdb,qdb,qdb⟩,⟨MB.cs ⟨qdb,qdb,qdb,qdb⟩,⟨MB.cs ⟨qdb,qdb,qdb,qdb⟩,⟨MB.cs ⟨qdb,qdb⟩,⟨MB.cs ⟨qdb,qdb,qdb,qdb,qdb⟩,⟨MB.cs ⟨qdb,qdb,qdb,qdb,qdb⟩,⟨MB.es (eI .i64) true l6',⟨MB.cs ⟨rfl,qdb⟩,⟨MB.same trivial,⟨.same (hkin _ (by decide)),⟨MB.same (zfx _ _ _ _),qdb⟩⟩⟩⟩⟩⟩⟩⟩⟩⟩⟩,rfl,⟨⟨qdb,qdb,qdb,qdb⟩,⟨qdb,qdb,qdb,qdb⟩,⟨qdb,qdb,qdb,qdb⟩,⟨qdb,qdb⟩,⟨qdb,qdb,qdb,qdb,qdb⟩,⟨qdb,qdb,qdb,qdb,qdb⟩,(zeh (eI .i64) _ _ _),⟨(qaf rfl),qdb⟩,qdb,qdb⟩,zcr.ret rfl (Snp.zeU (.cons (.zd9 (.cons (zap (eI .i64)) (.cons (zap (eI .i64)) (.cons (zap (eI .i64)) .nil)))) (.cons (.lit _) .nil)))⟩
  ·rintro l6' ⟨hi4,el6'⟩;rw[qbh]at hi4;simp only[zbZ]at hi4;exact⟨l6',(qac hi4).symm,el6',rfl⟩
  ·rintro _ ⟨l6',oeq,el6',rfl⟩;have oeq2:=oeq.symm;subst oeq2;dsimp only at h;rw[congrFun hT4 l6'];refine zaa ?_;try simp only[rnA,Nat.reduceEqDiff,Nat.reduceLT,Nat.reduceAdd,Nat.reduceLeDiff]
   replace h:=qac h; subst h;exact zcr.ret rfl (Snp.zeU (.cons (.zd9 (.cons (zah _ _ (fun _=>rfl)) (.cons (zah _ _ (fun _=>rfl)) (.cons (zbD (e:=(eI .i64)) (t:=true) rfl (.inl rfl) (el6').symm (el6').symm (fun k h=>by cases h; exact qal _) (fun _=>rfl)) .nil)))) (.cons (.lit _) .nil)))
  ·intro id L1 hx; exact hx.elim
  intro L1 hx; exact hx.2.2
 ·intro id L1 hx; exact hx.elim
 intro L1 hx; exact hx.2.2
def zco(x8:S_api_Node)(r1:(S_net_network×Int))(r4:((List Int)×Int)):Nat→Int→Int→Option Int
 | 0,_,_=>none
 | n+1,v12,v45=>(
bif (decide (v45<(x8.parents.length:Int)))then(
(zaZ x8.parents v45).bind fun x11=>
(zaZ r1.1.zad x11).bind fun x13=>
(zaZ r4.1 x11).bind fun x15=>
zco x8 r1 r4 n (w64 ((w64 (v12 * x13))+x15)) (w64 (v45+1)))
else(
some v12))
def zcl(r1:(S_net_network×Int))(r4:((List Int)×Int)):Nat→Int→Int→Option Int
 | 0,_,_=>none
 | n+1,v9,v37=>(
bif (decide (v37<(r1.1.net.nodes.length:Int)))then(
(zaZ r1.1.net.nodes v37).bind fun x8=>
((zco x8 r1 r4 ((x8.parents.length:Int) - 0+2:Int).toNat 0 0:Option Int)).bind fun v12=>
(zaZ x8.rows v12).bind fun x17=>
(zaZ r4.1 v37).bind fun x19=>
(zaZ x17 x19).bind fun x21=>
zcl r1 r4 n (w64 (v9 * x21)) (w64 (v37+1)))
else(
some v9))
def zdz(p0:S_api_Net)(p1:Int):Option (Int×Int):=
(zcP p0).bind fun r1=>
bif (r1.2 == 0)then(
(zcA r1.1.zad p1).bind fun r4=>
bif (r4.2 == 0)then(
((zcl r1 r4 ((r1.1.net.nodes.length:Int) - 0+2:Int).toNat 1 0:Option Int)).bind fun v9=>
some (v9,0))
else(
some (0,r4.2)))
else(
some (0,r1.2))
def zho:C:=
 .seq (rg [oW 2 0,
 oK 4 0,
 oK 5 0])
 (.seq (rg [oN 16 2 2,
 oU 17 77 16,
 oM 15 17,
 oX 18 15 0,
 oX 19 15 1,
 ⟨some 6,.alloc [(.int .i64 0),(.slice none 0 0),(.slice none 0 0),(.slice none 0 0),(.slice none 0 0)],none⟩,
 oS 5 6 18,
 oM 7 19])
 (.seq (.seq (rg [oM 20 7,
 oD 21 .neq 20 0])
 (.cond (.s 21) (.seq (rg [oM 22 7,
 oK 4 0,
 oM 5 22])
 (.ret))
 (.skip)))
 (.seq (rg [oF 24 2 6,
 oL 25 24,
 oM 26 1,
 oV 27 113 25 26,
 oM 23 27,
 oX 28 23 0,
 oX 29 23 1,
 oM 8 28,
 oM 7 29])
 (.seq (.seq (rg [oM 30 7,
 oD 31 .neq 30 0])
 (.cond (.s 31) (.seq (rg [oM 32 7,
 oK 4 0,
 oM 5 32])
 (.ret))
 (.skip)))
 (.seq (rg [oK 9 1])
 (.seq (.seq (rg [oF 33 0 6,
 oF 34 1 33,
 oL 35 34,
 oE 36 35,
 oK 37 0])
 (.scope (.block 0 (.loop (.seq (rg [oB 38 .lss 37 36])
 (.seq (.cond (.s 38) (.skip)
 (.exit 0))
 (.seq (.block 1 (.seq (rg [oM 39 37,
 oI 40 3 35 37,
 oN 41 3 40,
 ⟨some 11,.alloc [(.int .i64 0),(.slice none 0 0),(.slice none 0 0)],none⟩,
 oM 10 39,
 oS 3 11 41])
 (.seq (rg [oK 12 0])
 (.seq (.seq (rg [oF 42 1 11,
 oL 43 42,
 oE 44 43,
 oK 45 0])
 (.scope (.block 2 (.loop (.seq (rg [oB 46 .lss 45 44])
 (.seq (.cond (.s 46) (.skip)
 (.exit 2))
 (.seq (.block 3 (.seq (rg [oI 47 1 43 45,
 oL 48 47,
 oM 14 48])
 (.reg true false [oM 49 12,
 oF 50 2 6,
 oL 51 50,
 oM 52 14,
 oI 53 1 51 52,
 oL 54 53,
 oB 55 .mul 49 54,
 oM 56 8,
 oM 57 14,
 oI 58 1 56 57,
 oL 59 58,
 oB 60 .add 55 59,
 oM 12 60])))
 (rg [oD 61 .add 45 1,
 oM 45 61]))))))))
 (.reg true false [oM 62 9,
 oF 63 2 11,
 oL 64 63,
 oM 65 12,
 oI 66 1 64 65,
 oL 67 66,
 oM 68 8,
 oM 69 10,
 oI 70 1 68 69,
 oL 71 70,
 oI 72 1 67 71,
 oL 73 72,
 oB 74 .mul 62 73,
 oM 9 74])))))
 (rg [oD 75 .add 37 1,
 oM 37 75]))))))))
 (.seq (rg [oM 76 9,
 oM 4 76,
 oK 5 0])
 (.ret))))))))
theorem ziW:ziU mC 54=some (77,zho,[.tmp 4,.tmp 5],false):=zbu (by kernel_rfl)
theorem zk1{p0:S_api_Net}{p1:Int}{r:(Int×Int)}(h:zdz p0 p1=some r):Lx.Fn mC 54 [(.agg [(dI p0.grain),(fzE false zab p0.nodes)]),(dI p1)] (.tup [(dI r.1),(dI r.2)]):=by
 refine Fn.of ziW (zbo rfl) (qaf rfl) ?_;unfold zdz at h;simp only[zho,zjR];refine zaa ?_;obtain⟨r1,g2,h⟩:=bind_some h;try simp only[rnA,Nat.reduceEqDiff,Nat.reduceLT,Nat.reduceAdd,Nat.reduceLeDiff,reduceCtorEq]
 refine EvL.fnS (zeN g2) rfl rfl (.cons (Mzs.agg (.cons (.lit _) (.cons (zcC _ _ (fun h=>by cases h<;>contradiction)) .nil))) .nil) ⟨⟨qdb,(zaJ _ _),qdb⟩,qdb⟩ ⟨⟨qdb,(zaJ _ _),(zaJ _ _),(zaJ _ _),(zaJ _ _),qdb⟩,qdb,qdb⟩ ?_;try simp only[rnA,Nat.reduceEqDiff,Nat.reduceLT,Nat.reduceAdd,Nat.reduceLeDiff,reduceCtorEq]
 cases c3:(r1.2 == 0)
 ·rw[c3,cond_false]at h;try simp only[rnA,Nat.reduceEqDiff,Nat.reduceLT,reduceCtorEq]
  replace h:=qac h; subst h;exact zcr.ret rfl (Snp.zeU (.cons (.lit _) (.cons (.lit _) .nil)))
 rw[c3,cond_true]at h;obtain⟨r4,g5,h⟩:=bind_some h;try simp only[rnA,Nat.reduceEqDiff,Nat.reduceLT,reduceCtorEq]
 refine EvL.fn (zig g5) rfl rfl (.cons (zah _ _ (fun h=>nomatch h)) (.cons (.lit _) .nil)) ?_;try simp only[rnA,Nat.reduceEqDiff,Nat.reduceLT,reduceCtorEq]
 cases c6:(r4.2 == 0)
 ·rw[c6,cond_false]at h;try simp only[rnA,Nat.reduceEqDiff,Nat.reduceLT,reduceCtorEq]
  replace h:=qac h; subst h;exact zcr.ret rfl (Snp.zeU (.cons (.lit _) (.cons (.lit _) .nil)))
 rw[c6,cond_true]at h;try simp only[rnA,Nat.reduceEqDiff,Nat.reduceLT,reduceCtorEq,zat]
 obtain⟨o7,j7,h⟩:=bind_some h;obtain⟨T7,hT7⟩:=mkT fun a:Int=>⟨77,[(9,(dI a))],[]⟩
 refine EvL.jn T7 (fun a=>a=o7) ?_ ?_
 ·refine zaa ?_;simp only[rnA];obtain⟨T12,hT12⟩:=mkT fun a:(Int×Int)=>⟨77,[(6,(.ptr 1 0)),(8,(fzE true (eI .i64) r4.1)),(9,(dI a.1)),(35,(fzE false zab r1.1.net.nodes)),(36,(dI (r1.1.net.nodes.length:Int))),(37,(dI a.2))],[.gone,.cells [(dI r1.1.net.grain),(fzE false zab r1.1.net.nodes),(fzE false (eI .i64) r1.1.zad),(fzE false (eI .u64) r1.1.sets),(fzE false (eI .i64) r1.1.order)]]⟩
  refine EvL.rounds (α:=(Int×Int)) T12 (fun n a=>zcl r1 r4 n a.1 a.2=some o7) ((r1.1.net.nodes.length:Int) - 0+2:Int).toNat (1,0) (by rw[hT12]; exact wm0 [.d,.k] ⟨rfl,⟨MB.cs ⟨qdb,qdb,qdb,qdb,qdb,qdb⟩,qdb⟩⟩) j7 (fun _ h=>nomatch (show(none:Option Int)=some o7 from h)) ?_;rintro n ⟨v9,v37⟩ j7;simp only[zcl]at j7;rw[congrFun hT12 (v9,v37)];refine zaa ?_;try simp only[rnA,Nat.reduceEqDiff,Nat.reduceLT]
  cases c7:(decide (v37<(r1.1.net.nodes.length:Int)))
  ·rw[c7,cond_false]at j7;try simp only[rnA]
   replace j7:=qac j7; subst j7;exact lfj hT7 rfl (wm0 [] (by exact trivial))
  rw[c7,cond_true]at j7;obtain⟨x8,g9,j7⟩:=bind_some j7;try simp only[rnA,Nat.reduceEqDiff,Nat.reduceLT,Nat.reduceAdd,Nat.reduceLeDiff,zar,zao (n:=3) (e:=zab) rfl g9,zat]
  obtain⟨o13,j13,j7⟩:=bind_some j7;obtain⟨T13,hT13⟩:=mkT fun a:Int=>⟨77,[(6,(.ptr 1 0)),(8,(fzE true (eI .i64) r4.1)),(9,(dI v9)),(10,(dI v37)),(11,(.ptr 2 0)),(12,(dI a)),(35,(fzE false zab r1.1.net.nodes)),(36,(dI (r1.1.net.nodes.length:Int))),(37,(dI v37))],[.gone,.cells [(dI r1.1.net.grain),(fzE false zab r1.1.net.nodes),(fzE false (eI .i64) r1.1.zad),(fzE false (eI .u64) r1.1.sets),(fzE false (eI .i64) r1.1.order)],.cells [(dI x8.zaE),(fzE false (eI .i64) x8.parents),(fzE false (eL (eI .i64)) x8.rows)]]⟩
  refine EvL.jn T13 (fun a=>a=o13) ?_ ?_
  ·refine zaa ?_;simp only[rnA];obtain⟨T14,hT14⟩:=mkT fun a:(Int×Int)=>⟨77,[(6,(.ptr 1 0)),(8,(fzE true (eI .i64) r4.1)),(9,(dI v9)),(10,(dI v37)),(11,(.ptr 2 0)),(12,(dI a.1)),(35,(fzE false zab r1.1.net.nodes)),(36,(dI (r1.1.net.nodes.length:Int))),(37,(dI v37)),(43,(fzE false (eI .i64) x8.parents)),(44,(dI (x8.parents.length:Int))),(45,(dI a.2))],[.gone,.cells [(dI r1.1.net.grain),(fzE false zab r1.1.net.nodes),(fzE false (eI .i64) r1.1.zad),(fzE false (eI .u64) r1.1.sets),(fzE false (eI .i64) r1.1.order)],.cells [(dI x8.zaE),(fzE false (eI .i64) x8.parents),(fzE false (eL (eI .i64)) x8.rows)]]⟩
   refine EvL.rounds (α:=(Int×Int)) T14 (fun n a=>zco x8 r1 r4 n a.1 a.2=some o13) ((x8.parents.length:Int) - 0+2:Int).toNat (0,0) (by rw[hT14]; exact wm0 [.d,.k,.k] ⟨rfl,⟨MB.cs ⟨qdb,qdb,qdb,qdb,qdb,qdb⟩,⟨MB.cs ⟨qdb,qdb,qdb,qdb⟩,qdb⟩⟩⟩) j13 (fun _ h=>nomatch (show(none:Option Int)=some o13 from h)) ?_;rintro n ⟨v12,v45⟩ j13;simp only[zco]at j13;rw[congrFun hT14 (v12,v45)];refine zaa ?_;try simp only[rnA,Nat.reduceEqDiff,Nat.reduceLT]
   cases c10:(decide (v45<(x8.parents.length:Int)))
   ·rw[c10,cond_false]at j13;try simp only[rnA,Nat.reduceEqDiff,Nat.reduceLT,reduceCtorEq]
    replace j13:=qac j13; subst j13;exact lfj hT13 rfl (wm0 [.d,.k,.k] ⟨rfl,⟨MB.cs ⟨qdb,qdb,qdb,qdb,qdb,qdb⟩,⟨MB.cs ⟨qdb,qdb,qdb,qdb⟩,qdb⟩⟩⟩)
   rw[c10,cond_true]at j13;obtain⟨x11,g12,j13⟩:=bind_some j13;obtain⟨x13,g14,j13⟩:=bind_some j13;obtain⟨x15,g16,j13⟩:=bind_some j13;try simp only[rnA,Nat.reduceEqDiff,Nat.reduceLT,zao (n:=1) (e:=(eI .i64)) rfl g12,zao (n:=1) (e:=(eI .i64)) rfl g14,zao (n:=1) (e:=(eI .i64)) rfl g16]
   exact⟨((w64 ((w64 (v12 * x13))+x15)),(w64 (v45+1))),j13,by rw[hT14]; exact wm0 [.d,.k,.k] ⟨rfl,⟨MB.cs ⟨qdb,qdb,qdb,qdb,qdb,qdb⟩,⟨MB.cs ⟨qdb,qdb,qdb,qdb⟩,qdb⟩⟩⟩⟩
  rintro v12 rfl;rw[congrFun hT13 v12];refine zaa ?_;obtain⟨x17,g18,j7⟩:=bind_some j7;obtain⟨x19,g20,j7⟩:=bind_some j7;obtain⟨x21,g22,j7⟩:=bind_some j7;try simp only[rnA,Nat.reduceEqDiff,Nat.reduceLT,zao (n:=1) (e:=(eL (eI .i64))) rfl g18,zao (n:=1) (e:=(eI .i64)) rfl g20,zao (n:=1) (e:=(eI .i64)) rfl g22]
  exact⟨((w64 (v9 * x21)),(w64 (v37+1))),j7,by rw[hT12]; exact wm0 [.d,.k] ⟨rfl,⟨MB.cs ⟨qdb,qdb,qdb,qdb,qdb,qdb⟩,qdb⟩⟩⟩
 rintro v9 rfl;rw[congrFun hT7 v9];refine zaa ?_;try simp only[rnA,Nat.reduceEqDiff,Nat.reduceLT]
 replace h:=qac h; subst h;exact zcr.ret rfl (Snp.zeU (.cons (.lit _) (.cons (.lit _) .nil)))
def zd0:Option S_api_Factor:=
some (S_api_Factor.mk [] [] [1])
theorem zle{r:S_api_Factor}(h:zd0=some r):Lx.Fn mC 45 [] (.agg [(fzE true (eI .i64) r.vars),(fzE true (eI .i64) r.zad),(fzE true (eI .i64) r.w)]):=by
 refine fnO (by conv=>lhs; cbv) ?_;unfold zd0 at h;refine zaa ?_;try simp only[rnA,Nat.reduceEqDiff,reduceIte,Nat.reduceLT,Nat.reduceAdd,Nat.reduceLeDiff,Nat.reduceMul,Nat.reduceSub,Int.reduceLE,Int.reduceLT,Int.reduceBEq,Nat.reduceBEq,reduceCtorEq,zdS]
 replace h:=qac h; subst h;exact zcr.ret rfl (.zd9 (.cons (zap (eI .i64)) (.cons (zap (eI .i64)) (.cons (zbD (e:=(eI .i64)) (t:=true) rfl (.inl rfl) rfl rfl (fun k h=>by cases h; exact qal _) (fun _=>rfl)) .nil))))
def zdv(p0:S_api_Net):Option (Int×Int):=
(zcP p0).bind fun r1=>
bif (r1.2 == 0)then(
(zbS r1.1.zad).bind fun r4=>
some (r4.1,r4.2))
else(
some (0,r1.2))
theorem zk3{p0:S_api_Net}{r:(Int×Int)}(h:zdv p0=some r):Lx.Fn mC 52 [(.agg [(dI p0.grain),(fzE false zab p0.nodes)])] (.tup [(dI r.1),(dI r.2)]):=by
 refine fnO (by conv=>lhs; cbv) ?_;unfold zdv at h;refine zaa ?_;obtain⟨r1,g2,h⟩:=bind_some h;try simp only[rnA,Nat.reduceEqDiff,reduceIte,Nat.reduceLT,Nat.reduceAdd,Nat.reduceLeDiff,Nat.reduceMul,Nat.reduceSub,Int.reduceLE,Int.reduceLT,Int.reduceBEq,Nat.reduceBEq,reduceCtorEq,zar,zbP,zfc]
 refine EvL.fnS (zeN g2) rfl rfl (.cons (Mzs.agg (.cons (.lit _) (.cons (zcC _ _ (fun h=>by cases h<;>contradiction)) .nil))) .nil) ⟨⟨qdb,(zaJ _ _),qdb⟩,qdb⟩ ⟨⟨qdb,(zaJ _ _),(zaJ _ _),(zaJ _ _),(zaJ _ _),qdb⟩,qdb,qdb⟩ ?_;try simp only[rnA,Nat.reduceEqDiff,reduceIte,Nat.reduceLT,Nat.reduceAdd,Nat.reduceLeDiff,Nat.reduceMul,Nat.reduceSub,Int.reduceLE,Int.reduceLT,Int.reduceBEq,Nat.reduceBEq,reduceCtorEq,zar,zbP]
 cases c3:(r1.2 == 0)
 ·rw[c3,cond_false]at h;try simp only[rnA,Nat.reduceEqDiff,reduceIte,Nat.reduceLT,Nat.reduceAdd,Nat.reduceLeDiff,Nat.reduceMul,Nat.reduceSub,Int.reduceLE,Int.reduceLT,Int.reduceBEq,Nat.reduceBEq,reduceCtorEq,zar,zbP,c3]
  replace h:=qac h; subst h;exact zcr.ret rfl (Snp.zeU (.cons (.lit _) (.cons (.lit _) .nil)))
 rw[c3,cond_true]at h;obtain⟨r4,g5,h⟩:=bind_some h;try simp only[rnA,Nat.reduceEqDiff,reduceIte,Nat.reduceLT,Nat.reduceAdd,Nat.reduceLeDiff,Nat.reduceMul,Nat.reduceSub,Int.reduceLE,Int.reduceLT,Int.reduceBEq,Nat.reduceBEq,reduceCtorEq,zar,zbP,c3]
 refine EvL.fn (zeF g5) rfl rfl (.cons (zah _ _ (fun h=>nomatch h)) .nil) ?_;try simp only[rnA,Nat.reduceEqDiff,reduceIte,Nat.reduceLT,Nat.reduceAdd,Nat.reduceLeDiff,Nat.reduceMul,Nat.reduceSub,Int.reduceLE,Int.reduceLT,Int.reduceBEq,Nat.reduceBEq,reduceCtorEq,zar,zbP,c3]
 replace h:=qac h; subst h;exact zcr.ret rfl (Snp.zeU (.cons (.lit _) (.cons (.lit _) .nil)))
def zcM(r1:(S_net_network×Int)):Nat→Int→Int→Option Int
 | 0,_,_=>none
 | n+1,v6,v19=>(
bif (decide (v19<(r1.1.net.nodes.length:Int)))then(
zcM r1 n (w64 (v6 * r1.1.net.grain)) (w64 (v19+1)))
else(
some v6))
def zdV(p0:S_api_Net):Option (Int×Int):=
(zcP p0).bind fun r1=>
bif (r1.2 == 0)then(
((zcM r1 ((r1.1.net.nodes.length:Int) - 0+2:Int).toNat 1 0:Option Int)).bind fun v6=>
some (v6,0))
else(
some (0,r1.2))
theorem zmy{p0:S_api_Net}{r:(Int×Int)}(h:zdV p0=some r):Lx.Fn mC 53 [(.agg [(dI p0.grain),(fzE false zab p0.nodes)])] (.tup [(dI r.1),(dI r.2)]):=by
 refine fnO (by conv=>lhs; cbv) ?_;unfold zdV at h;refine zaa ?_;obtain⟨r1,g2,h⟩:=bind_some h;try simp only[rnA,Nat.reduceEqDiff,Nat.reduceLT,Nat.reduceAdd,Nat.reduceLeDiff,reduceCtorEq]
 refine EvL.fnS (zeN g2) rfl rfl (.cons (Mzs.agg (.cons (.lit _) (.cons (zcC _ _ (fun h=>by cases h<;>contradiction)) .nil))) .nil) ⟨⟨qdb,(zaJ _ _),qdb⟩,qdb⟩ ⟨⟨qdb,(zaJ _ _),(zaJ _ _),(zaJ _ _),(zaJ _ _),qdb⟩,qdb,qdb⟩ ?_;try simp only[rnA,Nat.reduceEqDiff,Nat.reduceLT,Nat.reduceAdd,Nat.reduceLeDiff,reduceCtorEq]
 cases c3:(r1.2 == 0)
 ·rw[c3,cond_false]at h;try simp only[rnA,Nat.reduceEqDiff,Nat.reduceLT,reduceCtorEq]
  replace h:=qac h; subst h;exact zcr.ret rfl (Snp.zeU (.cons (.lit _) (.cons (.lit _) .nil)))
 rw[c3,cond_true]at h;try simp only[rnA,Nat.reduceEqDiff,Nat.reduceLT,reduceCtorEq,zat]
 obtain⟨o1,j1,h⟩:=bind_some h;obtain⟨T1,hT1⟩:=mkT fun a:Int=>⟨28,[(6,(dI a))],[]⟩
 refine EvL.jn T1 (fun a=>a=o1) ?_ ?_
 ·refine zaa ?_;simp only[rnA];obtain⟨T2,hT2⟩:=mkT fun a:(Int×Int)=>⟨28,[(4,(.ptr 1 0)),(6,(dI a.1)),(18,(dI (r1.1.net.nodes.length:Int))),(19,(dI a.2))],[.gone,.cells [(dI r1.1.net.grain),(fzE false zab r1.1.net.nodes),(fzE false (eI .i64) r1.1.zad),(fzE false (eI .u64) r1.1.sets),(fzE false (eI .i64) r1.1.order)]]⟩
  refine EvL.rounds (α:=(Int×Int)) T2 (fun n a=>zcM r1 n a.1 a.2=some o1) ((r1.1.net.nodes.length:Int) - 0+2:Int).toNat (1,0) (by rw[hT2]; exact wm0 [.d,.k] ⟨rfl,⟨MB.cs ⟨qdb,qdb,qdb,qdb,qdb,qdb⟩,qdb⟩⟩) j1 (fun _ h=>nomatch (show(none:Option Int)=some o1 from h)) ?_;rintro n ⟨v6,v19⟩ j1;simp only[zcM]at j1;rw[congrFun hT2 (v6,v19)];refine zaa ?_;try simp only[rnA,Nat.reduceEqDiff,Nat.reduceLT]
  cases c4:(decide (v19<(r1.1.net.nodes.length:Int)))
  ·rw[c4,cond_false]at j1;try simp only[rnA]
   replace j1:=qac j1; subst j1;exact lfj hT1 rfl (wm0 [] (by exact trivial))
  rw[c4,cond_true]at j1;try simp only[rnA,Nat.reduceEqDiff,Nat.reduceLT]
  exact⟨((w64 (v6 * r1.1.net.grain)),(w64 (v19+1))),j1,by rw[hT2]; exact wm0 [.d,.k] ⟨rfl,⟨MB.cs ⟨qdb,qdb,qdb,qdb,qdb,qdb⟩,qdb⟩⟩⟩
 rintro v6 rfl;rw[congrFun hT1 v6];refine zaa ?_;try simp only[rnA,Nat.reduceEqDiff,Nat.reduceLT]
 replace h:=qac h; subst h;exact zcr.ret rfl (Snp.zeU (.cons (.lit _) (.cons (.lit _) .nil)))
def zbk(r10:((List S_api_Factor)×Int)):Nat→Int→(List Int)→(List Int)→(List Int)→Option (Out ((List Int)×(List Int)×(List Int)) Bool)
 | 0,_,_,_,_=>none
 | n+1,v65,b2_0,b2_1,b2_2=>(
bif (decide (v65<(r10.1.length:Int)))then(
(zaZ r10.1 v65).bind fun x21=>
(zcc (S_api_Factor.mk b2_0 b2_1 b2_2) x21).bind fun r23=>
bif (r23.2 == 0)then(
zbk r10 n (w64 (v65+1)) r23.1.vars r23.1.zad r23.1.w)
else(
some (.ret false)))
else(
some (.go (b2_0,b2_1,b2_2))))
def zbi(r6:(Int×Int))(r4:S_api_Net)(b2_2:(List Int)):Nat→Int→Int→Option (Out Int Bool)
 | 0,_,_=>none
 | n+1,v13,v79=>(
bif (decide (v79<r6.1))then(
(zdz r4 v79).bind fun r27=>
((bif (r27.2 == 0)then(
bif (decide (r27.1<0))then(
some true)
else(
bif (decide ((b2_2.length:Int)≤v79))then(
some true)
else(
(zaZ b2_2 v79).bind fun x32=>
some (!(x32 == r27.1)))))
else(
some true):Option Bool)).bind fun v109=>
bif v109 then(
some (.ret false))
else(
zbi r6 r4 b2_2 n (w64 (v13+r27.1)) (w64 (v79+1))))
else(
some (.go v13)))
def zc2(N:Nat)(p0:S_haruspexref05_Draft):Option Bool:=
(znt).bind fun r1=>
bif r1 then(
(zcb N p0).bind fun r4=>
(zdv r4).bind fun r6=>
(zdV r4).bind fun r8=>
(zc3 r4).bind fun r10=>
((bif (r6.2 == 0)then(
bif (r8.2 == 0)then(
bif (r10.2 == 0)then(
bif (decide (r6.1<1))then(
some true)
else(
bif (decide (1024<r6.1))then(
some true)
else(
some (!((r10.1.length:Int)==(r4.nodes.length:Int))))))
else(
some true))
else(
some true))
else(
some true):Option Bool)).bind fun v61=>
bif v61 then(
some false)
else(
(zd0).bind fun r18=>
((zbk r10 ((r10.1.length:Int) - 0+2:Int).toNat 0 r18.vars r18.zad r18.w:Option (Out ((List Int)×(List Int)×(List Int)) Bool))).bind fun o=>match o with
| .go (b2_0,b2_1,b2_2)=>(
((zbi r6 r4 b2_2 (r6.1 - 0+2:Int).toNat 0 0:Option (Out Int Bool))).bind fun o=>match o with
| .go v13=>(
((bif ((b2_2.length:Int)== r6.1)then(
bif (v13 == r8.1)then(
some (decide (0<v13)))
else(
some false))
else(
some false):Option Bool)).bind fun v2=>
some v2)
| .ret r=>some r)
| .ret r=>some r))
else(
some false)
def zfy:C:=
 .seq (rg [oW 1 0,
 oJ 2 false])
 (.seq (.seq (rg [⟨some 17,.call 14 [],none⟩,
 ⟨some 18,.un .not (.s 17),none⟩])
 (.cond (.s 18) (.seq (rg [oJ 2 false])
 (.ret))
 (.skip)))
 (.seq (rg [oN 19 3 1,
 oU 20 48 19,
 ⟨some 3,.alloc [(.int .i64 0),(.slice none 0 0)],none⟩,
 oS 2 3 20])
 (.seq (rg [oN 22 2 3,
 oU 23 52 22,
 oM 21 23,
 oX 24 21 0,
 oX 25 21 1,
 oM 4 24,
 oM 5 25])
 (.seq (rg [oN 27 2 3,
 oU 28 53 27,
 oM 26 28,
 oX 29 26 0,
 oX 30 26 1,
 oM 6 29,
 oM 7 30])
 (.seq (rg [oN 32 2 3,
 oU 33 16 32,
 oM 31 33,
 oX 34 31 0,
 oX 35 31 1,
 oM 8 34,
 oM 9 35])
 (.seq (.seq (.scope (rg [oM 36 5,
 oD 37 .neq 36 0,
 oM 38 37,
 oMg 39 7 38 false,
 oDg 40 .neq 39 0 38 false,
 oP 41 38 40,
 oM 42 41,
 oMg 43 9 42 false,
 oDg 44 .neq 43 0 42 false,
 oP 45 42 44,
 oM 46 45,
 oMg 47 4 46 false,
 oDg 48 .lss 47 1 46 false,
 oP 49 46 48,
 oM 50 49,
 oMg 51 4 50 false,
 oDg 52 .gtr 51 1024 50 false,
 oP 53 50 52,
 oM 54 53,
 oMg 55 8 54 false,
 ⟨some 56,.len (.s 55),some (54,false)⟩,
 oFg 57 1 3 54 false,
 oLg 58 57 54 false,
 ⟨some 59,.len (.s 58),some (54,false)⟩,
 ⟨some 60,.bin .neq (.s 56) (.s 59),some (54,false)⟩,
 oP 61 54 60]))
 (.cond (.s 61) (.seq (rg [oJ 2 false])
 (.ret))
 (.skip)))
 (.seq (rg [⟨some 62,.call 45 [],none⟩,
 ⟨some 10,.alloc [(.slice none 0 0),(.slice none 0 0),(.slice none 0 0)],none⟩,
 oS 3 10 62])
 (.seq (.seq (rg [oM 63 8,
 oE 64 63,
 oK 65 0])
 (.scope (.block 0 (.loop (.seq (rg [oB 66 .lss 65 64])
 (.seq (.cond (.s 66) (.skip)
 (.exit 0))
 (.seq (.block 1 (.seq (rg [oI 67 3 63 65,
 oN 68 3 67,
 ⟨some 12,.alloc [(.slice none 0 0),(.slice none 0 0),(.slice none 0 0)],none⟩,
 oS 3 12 68])
 (.seq (rg [oN 70 3 10,
 oN 71 3 12,
 oV 72 25 70 71,
 oM 69 72,
 oX 73 69 0,
 oX 74 69 1,
 oS 3 10 73,
 oM 5 74])
 (.seq (rg [oM 75 5,
 oD 76 .neq 75 0])
 (.cond (.s 76) (.seq (rg [oJ 2 false])
 (.ret))
 (.skip))))))
 (rg [oD 77 .add 65 1,
 oM 65 77]))))))))
 (.seq (rg [oK 13 0])
 (.seq (.seq (rg [oM 78 4,
 oK 79 0])
 (.scope (.block 2 (.loop (.seq (rg [oB 80 .lss 79 78])
 (.seq (.cond (.s 80) (.skip)
 (.exit 2))
 (.seq (.block 3 (.seq (rg [oM 81 79,
 oM 14 81])
 (.seq (rg [oN 83 2 3,
 oM 84 14,
 oV 85 54 83 84,
 oM 82 85,
 oX 86 82 0,
 oX 87 82 1,
 oM 15 86,
 oM 16 87])
 (.seq (.seq (.scope (rg [oM 88 16,
 oD 89 .neq 88 0,
 oM 90 89,
 oMg 91 15 90 false,
 oDg 92 .lss 91 0 90 false,
 oP 93 90 92,
 oM 94 93,
 oMg 95 14 94 false,
 oFg 96 2 10 94 false,
 oLg 97 96 94 false,
 ⟨some 98,.len (.s 97),some (94,false)⟩,
 ⟨some 99,.bin .geq (.s 95) (.s 98),some (94,false)⟩,
 oP 100 94 99,
 oM 101 100,
 oFg 102 2 10 101 false,
 oLg 103 102 101 false,
 oMg 104 14 101 false,
 ⟨some 105,.idxS 1 (.s 103) (.s 104),some (101,false)⟩,
 oLg 106 105 101 false,
 oMg 107 15 101 false,
 ⟨some 108,.bin .neq (.s 106) (.s 107),some (101,false)⟩,
 oP 109 101 108]))
 (.cond (.s 109) (.seq (rg [oJ 2 false])
 (.ret))
 (.skip)))
 (rg [oM 110 13,
 oM 111 15,
 oB 112 .add 110 111,
 oM 13 112])))))
 (rg [oD 113 .add 79 1,
 oM 79 113]))))))))
 (.seq (.scope (rg [oF 114 2 10,
 oL 115 114,
 oE 116 115,
 oM 117 4,
 oB 118 .eql 116 117,
 oM 119 118,
 oMg 120 13 119 true,
 oMg 121 6 119 true,
 ⟨some 122,.bin .eql (.s 120) (.s 121),some (119,true)⟩,
 ⟨some 123,.pick (.s 119) (.s 122) (.c (.bool false)),none⟩,
 oM 124 123,
 oMg 125 13 124 true,
 oDg 126 .gtr 125 0 124 true,
 ⟨some 127,.pick (.s 124) (.s 126) (.c (.bool false)),none⟩,
 oM 2 127]))
 (.ret))))))))))))
theorem zhb:ziU mC 13=some (128,zfy,[.tmp 2],false):=zbu (by kernel_rfl)
theorem zhv{N:Nat}{p0:S_haruspexref05_Draft}{r:Bool}(h:zc2 N p0=some r):Lx.Fn mC 13 [(.agg [(dU8 p0.grain),(fzE false zaj p0.nodes),(fzE false (eI .u8) p0.order)])] (dB r):=by
 refine Fn.of zhb (zbo rfl) (qaf rfl) ?_;unfold zc2 at h;simp only[zfy,zjR];refine zaa ?_;obtain⟨r1,g2,h⟩:=bind_some h;try simp only[rnA,Nat.reduceLT]
 refine EvL.fn (zul g2) rfl rfl .nil ?_;try simp only[rnA,Nat.reduceEqDiff,Nat.reduceLT,reduceCtorEq]
 cases c3:r1
 ·rw[c3,cond_false]at h;try simp only[rnA,Nat.reduceLT]
  replace h:=qac h; subst h;exact zcr.ret rfl (.lit _)
 rw[c3,cond_true]at h;obtain⟨r4,g5,h⟩:=bind_some h;try simp only[rnA,Nat.reduceEqDiff,Nat.reduceLT,Nat.reduceAdd,Nat.reduceLeDiff,reduceCtorEq]
 refine EvL.fn (zhG g5) rfl rfl (.cons (.zd9 (.cons (.lit _) (.cons (zah _ _ (fun h=>nomatch h)) (.cons (zah _ _ (fun h=>nomatch h)) .nil)))) .nil) ?_;obtain⟨r6,g7,h⟩:=bind_some h;try simp only[rnA,Nat.reduceEqDiff,Nat.reduceLT,Nat.reduceAdd,Nat.reduceLeDiff,reduceCtorEq]
 refine EvL.fn (zk3 g7) rfl rfl (.cons (.zd9 (.cons (.lit _) (.cons (zah _ _ (fun h=>nomatch h)) .nil))) .nil) ?_;obtain⟨r8,g9,h⟩:=bind_some h;try simp only[rnA,Nat.reduceEqDiff,Nat.reduceLT,Nat.reduceAdd,Nat.reduceLeDiff,reduceCtorEq]
 refine EvL.fn (zmy g9) rfl rfl (.cons (.zd9 (.cons (.lit _) (.cons (zah _ _ (fun h=>nomatch h)) .nil))) .nil) ?_;obtain⟨r10,g11,h⟩:=bind_some h;try simp only[rnA,Nat.reduceEqDiff,Nat.reduceLT,Nat.reduceAdd,Nat.reduceLeDiff,reduceCtorEq]
 refine EvL.fn (zi0 g11) rfl rfl (.cons (.zd9 (.cons (.lit _) (.cons (zah _ _ (fun h=>nomatch h)) .nil))) .nil) ?_;try simp only[rnA,Nat.reduceEqDiff,Nat.reduceLT,reduceCtorEq]
 obtain⟨o1,j1,h⟩:=bind_some h;obtain⟨T1,hT1⟩:=mkT fun a:Bool=>⟨128,[(3,(.ptr 1 0)),(4,(dI r6.1)),(6,(dI r8.1)),(8,(fzE true zav r10.1)),(61,(dB a))],[.gone,.cells [(dI r4.grain),(fzE true zab r4.nodes)]]⟩
 refine EvL.jn T1 (fun a=>a=o1) ?_ ?_
 ·refine zaa ?_;try simp only[rnA,Nat.reduceEqDiff,Nat.reduceLT,reduceCtorEq]
  cases c12:(r6.2 == 0)
  ·rw[c12,cond_false]at j1;try simp only[rnA,Nat.reduceEqDiff,Nat.reduceLT,reduceCtorEq]
   replace j1:=qac j1; subst j1;exact lfj hT1 rfl (wm0 [.d,.k] ⟨rfl,⟨MB.cs ⟨qdb,qdb,qdb⟩,qdb⟩⟩)
  rw[c12,cond_true]at j1;try simp only[rnA,Nat.reduceEqDiff,Nat.reduceLT,reduceCtorEq]
  cases c13:(r8.2 == 0)
  ·rw[c13,cond_false]at j1;try simp only[rnA,Nat.reduceEqDiff,Nat.reduceLT,reduceCtorEq]
   replace j1:=qac j1; subst j1;exact lfj hT1 rfl (wm0 [.d,.k] ⟨rfl,⟨MB.cs ⟨qdb,qdb,qdb⟩,qdb⟩⟩)
  rw[c13,cond_true]at j1;try simp only[rnA,Nat.reduceEqDiff,Nat.reduceLT,reduceCtorEq]
  cases c14:(r10.2 == 0)
  ·rw[c14,cond_false]at j1;try simp only[rnA,Nat.reduceEqDiff,Nat.reduceLT,reduceCtorEq]
   replace j1:=qac j1; subst j1;exact lfj hT1 rfl (wm0 [.d,.k] ⟨rfl,⟨MB.cs ⟨qdb,qdb,qdb⟩,qdb⟩⟩)
  rw[c14,cond_true]at j1;try simp only[rnA,Nat.reduceEqDiff,Nat.reduceLT,reduceCtorEq]
  cases c15:(decide (r6.1<1))
  ·rw[c15,cond_false]at j1;try simp only[rnA,Nat.reduceEqDiff,Nat.reduceLT,reduceCtorEq]
   cases c16:(decide (1024<r6.1))
   ·rw[c16,cond_false]at j1;try simp only[rnA,Nat.reduceEqDiff,Nat.reduceLT,reduceCtorEq,zat]
    replace j1:=qac j1; subst j1;exact lfj hT1 rfl (wm0 [.d,.k] ⟨rfl,⟨MB.cs ⟨qdb,qdb,qdb⟩,qdb⟩⟩)
   rw[c16,cond_true]at j1;try simp only[rnA,Nat.reduceEqDiff,Nat.reduceLT,reduceCtorEq]
   replace j1:=qac j1; subst j1;exact lfj hT1 rfl (wm0 [.d,.k] ⟨rfl,⟨MB.cs ⟨qdb,qdb,qdb⟩,qdb⟩⟩)
  rw[c15,cond_true]at j1;try simp only[rnA,Nat.reduceEqDiff,Nat.reduceLT,reduceCtorEq]
  replace j1:=qac j1; subst j1;exact lfj hT1 rfl (wm0 [.d,.k] ⟨rfl,⟨MB.cs ⟨qdb,qdb,qdb⟩,qdb⟩⟩)
 rintro v61 rfl;rw[congrFun hT1 v61];refine zaa ?_;try simp only[rnA,Nat.reduceEqDiff]
 cases c17:v61
 ·rw[c17,cond_false]at h;obtain⟨r18,g19,h⟩:=bind_some h;try simp only[rnA]
  refine EvL.fn (zle g19) rfl rfl .nil ?_;try simp only[rnA,Nat.reduceEqDiff,Nat.reduceLT,Nat.reduceAdd,Nat.reduceLeDiff,zat]
  obtain⟨o2,j2,h⟩:=bind_some h;obtain⟨T2,hT2⟩:=mkT fun a:((List Int)×(List Int)×(List Int))=>⟨128,[(3,(.ptr 1 0)),(4,(dI r6.1)),(6,(dI r8.1)),(10,(.ptr 2 0))],[.gone,.cells [(dI r4.grain),(fzE true zab r4.nodes)],.cells [(fzE true (eI .i64) a.1),(fzE true (eI .i64) a.2.1),(fzE true (eI .i64) a.2.2)]]⟩
  refine EvL.jn T2 (fun a=>o2=.go a) ?_ ?_
  ·refine zaa ?_;simp only[rnA];obtain⟨T3,hT3⟩:=mkT fun a:(Int×(List Int)×(List Int)×(List Int))=>⟨128,[(3,(.ptr 1 0)),(4,(dI r6.1)),(6,(dI r8.1)),(10,(.ptr 2 0)),(63,(fzE true zav r10.1)),(64,(dI (r10.1.length:Int))),(65,(dI a.1))],[.gone,.cells [(dI r4.grain),(fzE true zab r4.nodes)],.cells [(fzE true (eI .i64) a.2.1),(fzE true (eI .i64) a.2.2.1),(fzE true (eI .i64) a.2.2.2)]]⟩
   refine EvL.rounds (α:=(Int×(List Int)×(List Int)×(List Int))) T3 (fun n a=>zbk r10 n a.1 a.2.1 a.2.2.1 a.2.2.2=some o2) ((r10.1.length:Int) - 0+2:Int).toNat (0,r18.vars,r18.zad,r18.w) (by rw[hT3]; exact wm0 [.d,.k,.k] ⟨rfl,⟨MB.cs ⟨qdb,qdb,qdb⟩,⟨MB.cs ⟨qdb,qdb,qdb,qdb⟩,qdb⟩⟩⟩) j2 (fun _ h=>nomatch (show(none:Option (Out ((List Int)×(List Int)×(List Int)) Bool))=some o2 from h)) ?_;rintro n ⟨v65,b2_0,b2_1,b2_2⟩ j2;simp only[zbk]at j2;rw[congrFun hT3 (v65,b2_0,b2_1,b2_2)];refine zaa ?_;try simp only[rnA,Nat.reduceEqDiff,Nat.reduceLT]
   cases c20:(decide (v65<(r10.1.length:Int)))
   ·rw[c20,cond_false]at j2;try simp only[rnA]
    replace j2:=qac j2; subst j2;exact lfj hT2 rfl (wm0 [.d,.k,.k] ⟨rfl,⟨MB.cs ⟨qdb,qdb,qdb⟩,⟨MB.cs ⟨qdb,qdb,qdb,qdb⟩,qdb⟩⟩⟩)
   rw[c20,cond_true]at j2;obtain⟨x21,g22,j2⟩:=bind_some j2;obtain⟨r23,g24,j2⟩:=bind_some j2;try simp only[rnA,Nat.reduceEqDiff,Nat.reduceLT,Nat.reduceAdd,Nat.reduceLeDiff,zdS,zao (n:=3) (e:=zav) rfl g22]
   refine EvL.fn (zkj g24) rfl rfl (.cons (.zd9 (.cons (zah _ _ (fun h=>nomatch h)) (.cons (zah _ _ (fun h=>nomatch h)) (.cons (zah _ _ (fun h=>nomatch h)) .nil)))) (.cons (.zd9 (.cons (zah _ _ (fun h=>nomatch h)) (.cons (zah _ _ (fun h=>nomatch h)) (.cons (zah _ _ (fun h=>nomatch h)) .nil)))) .nil)) ?_;try simp only[rnA,Nat.reduceEqDiff,Nat.reduceLT,Nat.reduceAdd,Nat.reduceLeDiff]
   cases c25:(r23.2 == 0)
   ·rw[c25,cond_false]at j2;try simp only[rnA,Nat.reduceLT]
    replace j2:=qac j2; subst j2;dsimp only at h;replace h:=qac h; subst h;exact zcr.ret rfl (.lit _)
   rw[c25,cond_true]at j2;try simp only[rnA,Nat.reduceEqDiff,Nat.reduceLT]
   exact⟨((w64 (v65+1)),r23.1.vars,r23.1.zad,r23.1.w),j2,by rw[hT3]; exact wm0 [.d,.k,.k] ⟨rfl,⟨MB.cs ⟨qdb,qdb,qdb⟩,⟨MB.cs ⟨qdb,qdb,qdb,qdb⟩,qdb⟩⟩⟩⟩
  rintro⟨b2_0,b2_1,b2_2⟩ rfl;dsimp only at h;rw[congrFun hT2 (b2_0,b2_1,b2_2)];refine zaa ?_;try simp only[rnA,Nat.reduceEqDiff,Nat.reduceLT]
  obtain⟨o7,j7,h⟩:=bind_some h;obtain⟨T7,hT7⟩:=mkT fun a:Int=>⟨128,[(4,(dI r6.1)),(6,(dI r8.1)),(10,(.ptr 2 0)),(13,(dI a))],[.gone,.gone,.cells [(fzE true (eI .i64) b2_0),(fzE true (eI .i64) b2_1),(fzE true (eI .i64) b2_2)]]⟩
  refine EvL.jn T7 (fun a=>o7=.go a) ?_ ?_
  ·refine zaa ?_;simp only[rnA];obtain⟨T10,hT10⟩:=mkT fun a:(Int×Int)=>⟨128,[(3,(.ptr 1 0)),(4,(dI r6.1)),(6,(dI r8.1)),(10,(.ptr 2 0)),(13,(dI a.1)),(78,(dI r6.1)),(79,(dI a.2))],[.gone,.cells [(dI r4.grain),(fzE true zab r4.nodes)],.cells [(fzE true (eI .i64) b2_0),(fzE true (eI .i64) b2_1),(fzE true (eI .i64) b2_2)]]⟩
   refine EvL.rounds (α:=(Int×Int)) T10 (fun n a=>zbi r6 r4 b2_2 n a.1 a.2=some o7) (r6.1 - 0+2:Int).toNat (0,0) (by rw[hT10]; exact wm0 [.d,.k,.k] ⟨rfl,⟨MB.cs ⟨qdb,qdb,qdb⟩,⟨MB.cs ⟨qdb,qdb,qdb,qdb⟩,qdb⟩⟩⟩) j7 (fun _ h=>nomatch (show(none:Option (Out Int Bool))=some o7 from h)) ?_;rintro n ⟨v13,v79⟩ j7;simp only[zbi]at j7;rw[congrFun hT10 (v13,v79)];refine zaa ?_;try simp only[rnA,Nat.reduceEqDiff,Nat.reduceLT]
   cases c26:(decide (v79<r6.1))
   ·rw[c26,cond_false]at j7;try simp only[rnA]
    replace j7:=qac j7; subst j7;exact lfj hT7 rfl (wm0 [.d,.d,.k] ⟨rfl,⟨rfl,⟨MB.cs ⟨qdb,qdb,qdb,qdb⟩,qdb⟩⟩⟩)
   rw[c26,cond_true]at j7;obtain⟨r27,g28,j7⟩:=bind_some j7;try simp only[rnA,Nat.reduceEqDiff,Nat.reduceLT,Nat.reduceAdd,Nat.reduceLeDiff]
   refine EvL.fn (zk1 g28) rfl rfl (.cons (.zd9 (.cons (.lit _) (.cons (zah _ _ (fun h=>nomatch h)) .nil))) (.cons (.lit _) .nil)) ?_;try simp only[rnA,Nat.reduceEqDiff,Nat.reduceLT]
   obtain⟨o11,j11,j7⟩:=bind_some j7;obtain⟨T11,hT11⟩:=mkT fun a:Bool=>⟨128,[(3,(.ptr 1 0)),(4,(dI r6.1)),(6,(dI r8.1)),(10,(.ptr 2 0)),(13,(dI v13)),(15,(dI r27.1)),(78,(dI r6.1)),(79,(dI v79)),(109,(dB a))],[.gone,.cells [(dI r4.grain),(fzE true zab r4.nodes)],.cells [(fzE true (eI .i64) b2_0),(fzE true (eI .i64) b2_1),(fzE true (eI .i64) b2_2)]]⟩
   refine EvL.jn T11 (fun a=>a=o11) ?_ ?_
   ·refine zaa ?_;try simp only[rnA,Nat.reduceEqDiff,Nat.reduceLT]
    cases c29:(r27.2 == 0)
    ·rw[c29,cond_false]at j11;try simp only[rnA,Nat.reduceEqDiff,Nat.reduceLT]
     replace j11:=qac j11; subst j11;exact lfj hT11 rfl (wm0 [.d,.k,.k] ⟨rfl,⟨MB.cs ⟨qdb,qdb,qdb⟩,⟨MB.cs ⟨qdb,qdb,qdb,qdb⟩,qdb⟩⟩⟩)
    rw[c29,cond_true]at j11;try simp only[rnA,Nat.reduceEqDiff,Nat.reduceLT]
    cases c30:(decide (r27.1<0))
    ·rw[c30,cond_false]at j11;try simp only[rnA,Nat.reduceEqDiff,Nat.reduceLT,zat]
     cases c31:(decide ((b2_2.length:Int)≤v79))
     ·rw[c31,cond_false]at j11;obtain⟨x32,g33,j11⟩:=bind_some j11;try simp only[rnA,Nat.reduceEqDiff,Nat.reduceLT,zao (n:=1) (e:=(eI .i64)) rfl g33]
      replace j11:=qac j11; subst j11;exact lfj hT11 rfl (wm0 [.d,.k,.k] ⟨rfl,⟨MB.cs ⟨qdb,qdb,qdb⟩,⟨MB.cs ⟨qdb,qdb,qdb,qdb⟩,qdb⟩⟩⟩)
     rw[c31,cond_true]at j11;try simp only[rnA,Nat.reduceEqDiff,Nat.reduceLT]
     replace j11:=qac j11; subst j11;exact lfj hT11 rfl (wm0 [.d,.k,.k] ⟨rfl,⟨MB.cs ⟨qdb,qdb,qdb⟩,⟨MB.cs ⟨qdb,qdb,qdb,qdb⟩,qdb⟩⟩⟩)
    rw[c30,cond_true]at j11;try simp only[rnA,Nat.reduceEqDiff,Nat.reduceLT]
    replace j11:=qac j11; subst j11;exact lfj hT11 rfl (wm0 [.d,.k,.k] ⟨rfl,⟨MB.cs ⟨qdb,qdb,qdb⟩,⟨MB.cs ⟨qdb,qdb,qdb,qdb⟩,qdb⟩⟩⟩)
   rintro v109 rfl;rw[congrFun hT11 v109];refine zaa ?_;try simp only[rnA,Nat.reduceEqDiff]
   cases c34:v109
   ·rw[c34,cond_false]at j7;try simp only[rnA,Nat.reduceEqDiff,Nat.reduceLT]
    exact⟨((w64 (v13+r27.1)),(w64 (v79+1))),j7,by rw[hT10]; exact wm0 [.d,.k,.k] ⟨rfl,⟨MB.cs ⟨qdb,qdb,qdb⟩,⟨MB.cs ⟨qdb,qdb,qdb,qdb⟩,qdb⟩⟩⟩⟩
   rw[c34,cond_true]at j7;try simp only[rnA,Nat.reduceLT]
   replace j7:=qac j7; subst j7;dsimp only at h;replace h:=qac h; subst h;exact zcr.ret rfl (.lit _)
  rintro v13 rfl;dsimp only at h;rw[congrFun hT7 v13];refine zaa ?_;try simp only[rnA]
  obtain⟨o12,j12,h⟩:=bind_some h;obtain⟨T12,hT12⟩:=mkT fun a:Bool=>⟨128,[(2,(dB a))],[]⟩
  refine EvL.jn T12 (fun a=>a=o12) ?_ ?_
  ·refine zaa ?_;try simp only[rnA,Nat.reduceEqDiff,Nat.reduceLT,zat]
   cases c35:((b2_2.length:Int)== r6.1)
   ·rw[c35,cond_false]at j12;try simp only[rnA,Nat.reduceEqDiff,Nat.reduceLT]
    replace j12:=qac j12; subst j12;exact lfj hT12 rfl (wm0 [] (by exact trivial))
   rw[c35,cond_true]at j12;try simp only[rnA,Nat.reduceEqDiff,Nat.reduceLT]
   cases c36:(v13 == r8.1)
   ·rw[c36,cond_false]at j12;try simp only[rnA,Nat.reduceEqDiff,Nat.reduceLT]
    replace j12:=qac j12; subst j12;exact lfj hT12 rfl (wm0 [] (by exact trivial))
   rw[c36,cond_true]at j12;try simp only[rnA,Nat.reduceEqDiff,Nat.reduceLT]
   replace j12:=qac j12; subst j12;exact lfj hT12 rfl (wm0 [] (by exact trivial))
  rintro v2 rfl;rw[congrFun hT12 v2];refine zaa ?_;try simp only[rnA]
  replace h:=qac h; subst h;exact zcr.ret rfl (.lit _)
 rw[c17,cond_true]at h;try simp only[rnA,Nat.reduceLT]
 replace h:=qac h; subst h;exact zcr.ret rfl (.lit _)
end Go.Dc
