/-
 What eliminate_query_needed computes. Conditions: none.
-/
import Derived.Test.YtbjogdohfhdaiaaEkJ5
import Derived.Test.YtbjogdohfhdaiaaEkDcS
set_option linter.unusedSimpArgs false
set_option linter.unusedVariables false
set_option maxRecDepth 100000
set_option maxHeartbeats 4000000
namespace Go.Dc
open Go Go.Mx Go.Lx Go.Proofs
def zbi(x4:S_api_Node)(v29:Int)(p0:S_eliminate_query):Nat→Int→(List Int)→(List Int)→Option ((List Int)×(List Int))
 | 0,_,_,_=>none
 | n+1,v37,l1',l2'=>(
bif (decide (v37<(x4.parents.length:Int)))then(
(za6 x4.parents v37).bind fun x7=>
(za6 l1' v29).bind fun x9=>
(znt .u64 1 x7).bind fun q11=>
(zgN l1' v29 (orI .u64 x9 q11)).bind fun y13=>
(za6 l2' x7).bind fun x15=>
(znt .u64 1 v29).bind fun q17=>
(zgN l2' x7 (orI .u64 x15 q17)).bind fun y19=>
zbi x4 v29 p0 n (w64 (v37+1)) y13 y19)
else(
some (l1',l2')))
def zbm(p0:S_eliminate_query):Nat→Int→Int→(List Int)→(List Int)→Option (Int×(List Int)×(List Int))
 | 0,_,_,_,_=>none
 | n+1,v5,v29,l1,l2=>(
bif (decide (v29<(p0.net.nodes.length:Int)))then(
(za6 p0.net.nodes v29).bind fun x4=>
((zbi x4 v29 p0 ((x4.parents.length:Int) - 0+2:Int).toNat 0 l1 l2:Option (((List Int)×(List Int))))).bind fun o=>match o with
|(l1',l2')=>(
(za6 p0.known v29).bind fun x21=>
((bif (decide (0≤x21))then(
(znt .u64 1 v29).bind fun q24=>
some (orI .u64 v5 q24))
else(
some v5):Option Int)).bind fun v5'=>
zbm p0 n v5' (w64 (v29+1)) l1' l2'))
else(
some (v5,l1,l2)))
def zbj(p0:S_eliminate_query)(l1:(List Int)):Nat→Int→Int→Option Int
 | 0,_,_=>none
 | n+1,v5'',v78=>(
bif (decide (v78<(((Int.toNat (p0.net.nodes.length:Int)):Nat):Int)))then(
(za6 l1 v78).bind fun x28=>
(zl2 .u64 v5'' v78).bind fun q30=>
((bif ((zi0 .u64 q30 1)== 1)then(
some (orI .u64 v5'' x28))
else(
some v5''):Option Int)).bind fun v5'''=>
zbj p0 l1 n v5''' (w64 (v78+1)))
else(
some v5''))
def zbg(p0:S_eliminate_query)(l1:(List Int)):Nat→Int→Int→Option Int
 | 0,_,_=>none
 | n+1,v5',v74=>(
bif (decide (v74<(p0.net.nodes.length:Int)))then(
((zbj p0 l1 ((((Int.toNat (p0.net.nodes.length:Int)):Nat):Int) - 0+2:Int).toNat v5' 0:Option Int)).bind fun v5''=>
zbg p0 l1 n v5'' (w64 (v74+1)))
else(
some v5'))
def zbl(N:Nat)(p0:S_eliminate_query)(l1:(List Int))(l2:(List Int))(v5:Int)(v5':Int):Nat→Int→Int→Option Int
 | 0,_,_=>none
 | n+1,v13,v103=>(
bif (decide (v103<(p0.net.nodes.length:Int)))then(
(zdl N v103 l1 l2 v5 v5').bind fun r37=>
(zl2 .u64 r37 p0.node).bind fun q39=>
((bif ((zi0 .u64 q39 1)== 1)then(
(znt .u64 1 v103).bind fun q42=>
some (orI .u64 v13 q42))
else(
some v13):Option Int)).bind fun v13'=>
zbl N p0 l1 l2 v5 v5' n v13' (w64 (v103+1)))
else(
some v13))
def zbx(N:Nat)(p0:S_eliminate_query):Option Int:=
(zeO 8 (p0.net.nodes.length:Int) 0).bind fun y1=>
((zbm p0 ((p0.net.nodes.length:Int) - 0+2:Int).toNat 0 0 y1 y1:Option ((Int×(List Int)×(List Int))))).bind fun o=>match o with
|(v5,l1,l2)=>(
((zbg p0 l1 ((p0.net.nodes.length:Int) - 0+2:Int).toNat v5 0:Option Int)).bind fun v5'=>
(zl2 .u64 v5 p0.node).bind fun q33=>
bif ((zi0 .u64 q33 1)== 1)then(
some 0)
else(
((zbl N p0 l1 l2 v5 v5' ((p0.net.nodes.length:Int) - 0+2:Int).toNat 0 0:Option Int)).bind fun v13=>
some v13))
def zc2:C:=
 .seq (rg [oW 1 0,
 ⟨some 2,.mov (.c (.int .u64 0)),none⟩])
 (.seq (rg [oF 15 0 1,
 oF 16 1 15,
 oL 17 16,
 oE 18 17,
 ⟨some 19,.mk 1 8 [(.int .u64 0)] (.s 18) (.s 18),none⟩,
 oM 3 19])
 (.seq (rg [oF 20 0 1,
 oF 21 1 20,
 oL 22 21,
 oE 23 22,
 ⟨some 24,.mk 1 8 [(.int .u64 0)] (.s 23) (.s 23),none⟩,
 oM 4 24])
 (.seq (rg [⟨some 5,.mov (.c (.int .u64 0)),none⟩])
 (.seq (.seq (rg [oF 25 0 1,
 oF 26 1 25,
 oL 27 26,
 oE 28 27,
 oK 29 0])
 (.scope (.block 0 (.loop (.seq (rg [oB 30 .lss 29 28])
 (.seq (.cond (.s 30) (.skip)
 (.exit 0))
 (.seq (.block 1 (.seq (rg [oM 31 29,
 oI 32 3 27 29,
 oN 33 3 32,
 ⟨some 7,.alloc [(.int .i64 0),(.slice none 0 0),(.slice none 0 0)],none⟩,
 oM 6 31,
 oS 3 7 33])
 (.seq (.seq (rg [oF 34 1 7,
 oL 35 34,
 oE 36 35,
 oK 37 0])
 (.scope (.block 2 (.loop (.seq (rg [oB 38 .lss 37 36])
 (.seq (.cond (.s 38) (.skip)
 (.exit 2))
 (.seq (.block 3 (.seq (rg [oI 39 1 35 37,
 oL 40 39,
 oM 9 40])
 (.seq (.reg true false [oM 41 3,
 oM 42 6,
 oI 43 1 41 42,
 oL 44 43,
 oM 45 9,
 ⟨some 46,.bin .shl (.c (.int .u64 1)) (.s 45),none⟩,
 oB 47 .or 44 46,
 oI 48 1 41 42,
 oS 1 48 47])
 (.reg true false [oM 49 4,
 oM 50 9,
 oI 51 1 49 50,
 oL 52 51,
 oM 53 6,
 ⟨some 54,.bin .shl (.c (.int .u64 1)) (.s 53),none⟩,
 oB 55 .or 52 54,
 oI 56 1 49 50,
 oS 1 56 55]))))
 (rg [oD 57 .add 37 1,
 oM 37 57]))))))))
 (.seq (rg [oF 58 2 1,
 oL 59 58,
 oM 60 6,
 oI 61 1 59 60,
 oL 62 61,
 oD 63 .geq 62 0])
 (.scope (.cond (.s 63) (rg [oM 64 5,
 oM 65 6,
 ⟨some 66,.bin .shl (.c (.int .u64 1)) (.s 65),none⟩,
 oB 67 .or 64 66,
 oM 5 67])
 (.skip)))))))
 (rg [oD 68 .add 29 1,
 oM 29 68]))))))))
 (.seq (rg [oM 69 5,
 oM 10 69])
 (.seq (.seq (rg [oF 70 0 1,
 oF 71 1 70,
 oL 72 71,
 oE 73 72,
 oK 74 0])
 (.scope (.block 4 (.loop (.seq (rg [oB 75 .lss 74 73])
 (.seq (.cond (.s 75) (.skip)
 (.exit 4))
 (.seq (.block 5 (.seq (rg [oM 76 3,
 oE 77 76,
 oK 78 0])
 (.scope (.block 6 (.loop (.seq (rg [oB 79 .lss 78 77])
 (.seq (.cond (.s 79) (.skip)
 (.exit 6))
 (.seq (.block 7 (.seq (rg [oM 80 78,
 oI 81 1 76 78,
 oL 82 81,
 oM 11 80,
 oM 12 82])
 (.seq (rg [oM 83 5,
 oM 84 11,
 oB 85 .shr 83 84,
 oDu 86 .and 85 1,
 oDu 87 .eql 86 1])
 (.scope (.cond (.s 87) (rg [oM 88 5,
 oM 89 12,
 oB 90 .or 88 89,
 oM 5 90])
 (.skip))))))
 (rg [oD 91 .add 78 1,
 oM 78 91])))))))))
 (rg [oD 92 .add 74 1,
 oM 74 92]))))))))
 (.seq (.seq (rg [oM 93 10,
 oF 94 3 1,
 oL 95 94,
 oB 96 .shr 93 95,
 oDu 97 .and 96 1,
 oDu 98 .eql 97 1])
 (.cond (.s 98) (.seq (rg [⟨some 2,.mov (.c (.int .u64 0)),none⟩])
 (.ret))
 (.skip)))
 (.seq (rg [⟨some 13,.mov (.c (.int .u64 0)),none⟩])
 (.seq (.seq (rg [oF 99 0 1,
 oF 100 1 99,
 oL 101 100,
 oE 102 101,
 oK 103 0])
 (.scope (.block 8 (.loop (.seq (rg [oB 104 .lss 103 102])
 (.seq (.cond (.s 104) (.skip)
 (.exit 8))
 (.seq (.block 9 (.seq (rg [oM 105 103,
 oM 14 105])
 (.seq (.reg true true [oM 106 14,
 oM 107 3,
 oM 108 4,
 oM 109 10,
 oM 110 5,
 oF 112 3 1,
 oL 113 112,
 ⟨some 111,.call 124 [(.s 106),(.s 107),(.s 108),(.s 109),(.s 110)],none⟩,
 oB 114 .shr 111 113,
 oDu 115 .and 114 1,
 oDu 116 .eql 115 1])
 (.scope (.cond (.s 116) (rg [oM 117 13,
 oM 118 14,
 ⟨some 119,.bin .shl (.c (.int .u64 1)) (.s 118),none⟩,
 oB 120 .or 117 119,
 oM 13 120])
 (.skip))))))
 (rg [oD 121 .add 103 1,
 oM 103 121]))))))))
 (.seq (rg [oM 122 13,
 oM 2 122])
 (.ret)))))))))))
theorem zer:zhM mC 96=some (123,zc2,[.tmp 2],false):=zbs (by kernel_rfl)
theorem zcU{N:Nat}{p0:S_eliminate_query}{r:Int}(h:zbx N p0=some r):Lx.Fn mC 96 [(.agg [(dI p0.net.grain),(fzE false zac p0.net.nodes),(fzE false (eI .i64) p0.known),(dI p0.node)])] (dU r):=by
 refine Fn.of zer (zaZ rfl) (qac rfl) ?_;unfold zbx at h;simp only[zc2,zlX];refine zaa ?_;obtain⟨y1,g2,h⟩:=bind_some h;try simp only[rnA,Nat.reduceEqDiff,Nat.reduceLT,Nat.reduceAdd,reduceCtorEq,zam,(zau g2).1.1,(zau g2).1.2,qa1,(show List.replicate (Int.toNat (p0.net.nodes.length:Int)) [(dU 0)]=y1.map ((eI .u64).c true)from zbD g2 ((eI .u64).c true))]
 obtain⟨o10,j10,h⟩:=bind_some h;obtain⟨T10,hT10⟩:=mkT fun a:(Int×(List Int)×(List Int))=>⟨123,[(1,(.ptr 0 0)),(3,(.sl 1 0 1 (Int.toNat (p0.net.nodes.length:Int)) (some (Int.toNat (p0.net.nodes.length:Int))) (Int.toNat (p0.net.nodes.length:Int)))),(4,(.sl 2 0 1 (Int.toNat (p0.net.nodes.length:Int)) (some (Int.toNat (p0.net.nodes.length:Int))) (Int.toNat (p0.net.nodes.length:Int)))),(5,(dU a.1))],[.cells [(dI p0.net.grain),(fzE false zac p0.net.nodes),(fzE false (eI .i64) p0.known),(dI p0.node)],.els 1 (a.2.1.map ((eI .u64).c true)),.els 1 (a.2.2.map ((eI .u64).c true))]⟩
 refine EvL.jn T10 (fun a=>a=o10∧a.2.1.length=(Int.toNat (p0.net.nodes.length:Int))∧a.2.2.length=(Int.toNat (p0.net.nodes.length:Int))) ?_ ?_
 ·refine zaa ?_;simp only[rnA];obtain⟨T17,hT17⟩:=mkT fun a:(Int×Int×(List Int)×(List Int))=>⟨123,[(1,(.ptr 0 0)),(3,(.sl 1 0 1 (Int.toNat (p0.net.nodes.length:Int)) (some (Int.toNat (p0.net.nodes.length:Int))) (Int.toNat (p0.net.nodes.length:Int)))),(4,(.sl 2 0 1 (Int.toNat (p0.net.nodes.length:Int)) (some (Int.toNat (p0.net.nodes.length:Int))) (Int.toNat (p0.net.nodes.length:Int)))),(5,(dU a.1)),(27,(fzE false zac p0.net.nodes)),(28,(dI (p0.net.nodes.length:Int))),(29,(dI a.2.1))],[.cells [(dI p0.net.grain),(fzE false zac p0.net.nodes),(fzE false (eI .i64) p0.known),(dI p0.node)],.els 1 (a.2.2.1.map ((eI .u64).c true)),.els 1 (a.2.2.2.map ((eI .u64).c true))]⟩
  refine EvL.rounds (α:=(Int×Int×(List Int)×(List Int))) T17 (fun n a=>zbm p0 n a.1 a.2.1 a.2.2.1 a.2.2.2=some o10∧a.2.2.1.length=(Int.toNat (p0.net.nodes.length:Int))∧a.2.2.2.length=(Int.toNat (p0.net.nodes.length:Int))) ((p0.net.nodes.length:Int) - 0+2:Int).toNat (0,0,y1,y1) (by rw[hT17]; exact wm0 [.k,.k,.k] ⟨MB.cs ⟨qb1,qb1,qb1,qb1,qb1⟩,⟨MB.es (eI .u64) true y1,⟨MB.es (eI .u64) true y1,qb1⟩⟩⟩) ⟨j10,zaN g2,zaN g2⟩ (fun _ h=>nomatch (show(none:Option (Int×(List Int)×(List Int)))=some o10 from h.1)) ?_;rintro n ⟨v5,v29,l1,l2⟩ ⟨j10,el1,el2⟩;simp only[zbm]at j10;rw[congrFun hT17 (v5,v29,l1,l2)];refine zaa ?_;try simp only[rnA,Nat.reduceEqDiff,Nat.reduceLT]
  cases c3:(decide (v29<(p0.net.nodes.length:Int)))
  ·rw[c3,cond_false]at j10;try simp only[rnA]
   replace j10:=qaa j10; subst j10;exact⟨_,⟨rfl,el1,el2⟩,by rw[hT10]; exact wm0 [.k,.k,.k] ⟨MB.cs ⟨qb1,qb1,qb1,qb1,qb1⟩,⟨MB.es (eI .u64) true l1,⟨MB.es (eI .u64) true l2,qb1⟩⟩⟩⟩
  rw[c3,cond_true]at j10;obtain⟨x4,g5,j10⟩:=bind_some j10;try simp only[rnA,Nat.reduceEqDiff,Nat.reduceLT,Nat.reduceAdd,Nat.reduceLeDiff,zat,zak (n:=3) (e:=zac) rfl g5,zam]
  obtain⟨o18,j18,j10⟩:=bind_some j10;obtain⟨T18,hT18⟩:=mkT fun a:((List Int)×(List Int))=>⟨123,[(1,(.ptr 0 0)),(3,(.sl 1 0 1 (Int.toNat (p0.net.nodes.length:Int)) (some (Int.toNat (p0.net.nodes.length:Int))) (Int.toNat (p0.net.nodes.length:Int)))),(4,(.sl 2 0 1 (Int.toNat (p0.net.nodes.length:Int)) (some (Int.toNat (p0.net.nodes.length:Int))) (Int.toNat (p0.net.nodes.length:Int)))),(5,(dU v5)),(6,(dI v29)),(27,(fzE false zac p0.net.nodes)),(28,(dI (p0.net.nodes.length:Int))),(29,(dI v29))],[.cells [(dI p0.net.grain),(fzE false zac p0.net.nodes),(fzE false (eI .i64) p0.known),(dI p0.node)],.els 1 (a.1.map ((eI .u64).c true)),.els 1 (a.2.map ((eI .u64).c true))]⟩
  refine EvL.jn T18 (fun a=>a=o18∧a.1.length=(Int.toNat (p0.net.nodes.length:Int))∧a.2.length=(Int.toNat (p0.net.nodes.length:Int))) ?_ ?_
  ·refine zaa ?_;simp only[rnA];obtain⟨T19,hT19⟩:=mkT fun a:(Int×(List Int)×(List Int))=>⟨123,[(1,(.ptr 0 0)),(3,(.sl 1 0 1 (Int.toNat (p0.net.nodes.length:Int)) (some (Int.toNat (p0.net.nodes.length:Int))) (Int.toNat (p0.net.nodes.length:Int)))),(4,(.sl 2 0 1 (Int.toNat (p0.net.nodes.length:Int)) (some (Int.toNat (p0.net.nodes.length:Int))) (Int.toNat (p0.net.nodes.length:Int)))),(5,(dU v5)),(6,(dI v29)),(27,(fzE false zac p0.net.nodes)),(28,(dI (p0.net.nodes.length:Int))),(29,(dI v29)),(35,(fzE false (eI .i64) x4.parents)),(36,(dI (x4.parents.length:Int))),(37,(dI a.1))],[.cells [(dI p0.net.grain),(fzE false zac p0.net.nodes),(fzE false (eI .i64) p0.known),(dI p0.node)],.els 1 (a.2.1.map ((eI .u64).c true)),.els 1 (a.2.2.map ((eI .u64).c true))]⟩
   refine EvL.rounds (α:=(Int×(List Int)×(List Int))) T19 (fun n a=>zbi x4 v29 p0 n a.1 a.2.1 a.2.2=some o18∧a.2.1.length=(Int.toNat (p0.net.nodes.length:Int))∧a.2.2.length=(Int.toNat (p0.net.nodes.length:Int))) ((x4.parents.length:Int) - 0+2:Int).toNat (0,l1,l2) (by rw[hT19]; exact wm0 [.k,.k,.k] ⟨MB.cs ⟨qb1,qb1,qb1,qb1,qb1⟩,⟨MB.es (eI .u64) true l1,⟨MB.es (eI .u64) true l2,qb1⟩⟩⟩) ⟨j18,el1,el2⟩ (fun _ h=>nomatch (show(none:Option ((List Int)×(List Int)))=some o18 from h.1)) ?_;rintro n ⟨v37,l1',l2'⟩ ⟨j18,el1',el2'⟩;simp only[zbi]at j18;rw[congrFun hT19 (v37,l1',l2')];refine zaa ?_;try simp only[rnA,Nat.reduceEqDiff,Nat.reduceLT]
   cases c6:(decide (v37<(x4.parents.length:Int)))
   ·rw[c6,cond_false]at j18;try simp only[rnA,Nat.reduceEqDiff,Nat.reduceLT,reduceCtorEq]
    replace j18:=qaa j18; subst j18;exact⟨_,⟨rfl,el1',el2'⟩,by rw[hT18]; exact wm0 [.k,.k,.k] ⟨MB.cs ⟨qb1,qb1,qb1,qb1,qb1⟩,⟨MB.es (eI .u64) true l1',⟨MB.es (eI .u64) true l2',qb1⟩⟩⟩⟩
   rw[c6,cond_true]at j18;obtain⟨x7,g8,j18⟩:=bind_some j18;obtain⟨x9,g10,j18⟩:=bind_some j18;obtain⟨q11,g12,j18⟩:=bind_some j18;obtain⟨y13,g14,j18⟩:=bind_some j18;obtain⟨x15,g16,j18⟩:=bind_some j18;obtain⟨q17,g18,j18⟩:=bind_some j18;obtain⟨y19,g20,j18⟩:=bind_some j18;try simp only[rnA,Nat.reduceEqDiff,Nat.reduceLT,Nat.reduceLeDiff,zak (n:=1) (e:=(eI .i64)) rfl g8,el1',za3 g10,(show v29<(((Int.toNat (p0.net.nodes.length:Int)):Nat):Int)from el1' ▸ zaY g10),zaB g10 ((eI .u64).c true),(za5 g12).1,(za5 g12).2,(show(l1'.map ((eI .u64).c true)).set v29.toNat [(dU (orI .u64 x9 q11))]=y13.map ((eI .u64).c true)from za2 g14 ((eI .u64).c true)),el2',(show x7<(((Int.toNat (p0.net.nodes.length:Int)):Nat):Int)from el2' ▸ zaY g16),zaB g16 ((eI .u64).c true),(za5 g18).2,(show(l2'.map ((eI .u64).c true)).set x7.toNat [(dU (orI .u64 x15 q17))]=y19.map ((eI .u64).c true)from za2 g20 ((eI .u64).c true))]
   exact⟨((w64 (v37+1)),y13,y19),⟨j18,(zaR g14).trans el1',(zaR g20).trans el2'⟩,by rw[hT19]; exact wm0 [.k,.k,.k] ⟨MB.cs ⟨qb1,qb1,qb1,qb1,qb1⟩,⟨MB.es (eI .u64) true y13,⟨MB.es (eI .u64) true y19,qb1⟩⟩⟩⟩
  rintro⟨l1',l2'⟩ ⟨rfl,el1',el2'⟩;dsimp only at j10;rw[congrFun hT18 (l1',l2')];refine zaa ?_;obtain⟨x21,g22,j10⟩:=bind_some j10;try simp only[rnA,Nat.reduceEqDiff,Nat.reduceLT,zak (n:=1) (e:=(eI .i64)) rfl g22]
  obtain⟨o20,j20,j10⟩:=bind_some j10;obtain⟨T20,hT20⟩:=mkT fun a:Int=>⟨123,[(1,(.ptr 0 0)),(3,(.sl 1 0 1 (Int.toNat (p0.net.nodes.length:Int)) (some (Int.toNat (p0.net.nodes.length:Int))) (Int.toNat (p0.net.nodes.length:Int)))),(4,(.sl 2 0 1 (Int.toNat (p0.net.nodes.length:Int)) (some (Int.toNat (p0.net.nodes.length:Int))) (Int.toNat (p0.net.nodes.length:Int)))),(5,(dU a)),(27,(fzE false zac p0.net.nodes)),(28,(dI (p0.net.nodes.length:Int))),(29,(dI v29))],[.cells [(dI p0.net.grain),(fzE false zac p0.net.nodes),(fzE false (eI .i64) p0.known),(dI p0.node)],.els 1 (l1'.map ((eI .u64).c true)),.els 1 (l2'.map ((eI .u64).c true))]⟩
  refine EvL.jn T20 (fun a=>a=o20) ?_ ?_
  ·refine zaa ?_;try simp only[rnA,Nat.reduceEqDiff]
   cases c23:(decide (0≤x21))
   ·rw[c23,cond_false]at j20;try simp only[rnA]
    replace j20:=qaa j20; subst j20;exact lfj hT20 rfl (wm0 [.k,.k,.k] ⟨MB.cs ⟨qb1,qb1,qb1,qb1,qb1⟩,⟨MB.es (eI .u64) true l1',⟨MB.es (eI .u64) true l2',qb1⟩⟩⟩)
   rw[c23,cond_true]at j20;obtain⟨q24,g25,j20⟩:=bind_some j20;try simp only[rnA,Nat.reduceEqDiff,Nat.reduceLT,(za5 g25).1,(za5 g25).2]
   replace j20:=qaa j20; subst j20;exact lfj hT20 rfl (wm0 [.k,.k,.k] ⟨MB.cs ⟨qb1,qb1,qb1,qb1,qb1⟩,⟨MB.es (eI .u64) true l1',⟨MB.es (eI .u64) true l2',qb1⟩⟩⟩)
  rintro v5' rfl;rw[congrFun hT20 v5'];refine zaa ?_;try simp only[rnA,Nat.reduceEqDiff,Nat.reduceLT]
  exact⟨(v5',(w64 (v29+1)),l1',l2'),⟨j10,el1',el2'⟩,by rw[hT17]; exact wm0 [.k,.k,.k] ⟨MB.cs ⟨qb1,qb1,qb1,qb1,qb1⟩,⟨MB.es (eI .u64) true l1',⟨MB.es (eI .u64) true l2',qb1⟩⟩⟩⟩
 rintro⟨v5,l1,l2⟩ ⟨rfl,el1,el2⟩;dsimp only at h;rw[congrFun hT10 (v5,l1,l2)];refine zaa ?_;try simp only[rnA,Nat.reduceEqDiff,Nat.reduceLT,zam]
 obtain⟨o45,j45,h⟩:=bind_some h;obtain⟨T45,hT45⟩:=mkT fun a:Int=>⟨123,[(1,(.ptr 0 0)),(3,(.sl 1 0 1 (Int.toNat (p0.net.nodes.length:Int)) (some (Int.toNat (p0.net.nodes.length:Int))) (Int.toNat (p0.net.nodes.length:Int)))),(4,(.sl 2 0 1 (Int.toNat (p0.net.nodes.length:Int)) (some (Int.toNat (p0.net.nodes.length:Int))) (Int.toNat (p0.net.nodes.length:Int)))),(5,(dU a)),(10,(dU v5))],[.cells [(dI p0.net.grain),(fzE false zac p0.net.nodes),(fzE false (eI .i64) p0.known),(dI p0.node)],.els 1 (l1.map ((eI .u64).c true)),.els 1 (l2.map ((eI .u64).c true))]⟩
 refine EvL.jn T45 (fun a=>a=o45) ?_ ?_
 ·refine zaa ?_;simp only[rnA];obtain⟨T62,hT62⟩:=mkT fun a:(Int×Int)=>⟨123,[(1,(.ptr 0 0)),(3,(.sl 1 0 1 (Int.toNat (p0.net.nodes.length:Int)) (some (Int.toNat (p0.net.nodes.length:Int))) (Int.toNat (p0.net.nodes.length:Int)))),(4,(.sl 2 0 1 (Int.toNat (p0.net.nodes.length:Int)) (some (Int.toNat (p0.net.nodes.length:Int))) (Int.toNat (p0.net.nodes.length:Int)))),(5,(dU a.1)),(10,(dU v5)),(73,(dI (p0.net.nodes.length:Int))),(74,(dI a.2))],[.cells [(dI p0.net.grain),(fzE false zac p0.net.nodes),(fzE false (eI .i64) p0.known),(dI p0.node)],.els 1 (l1.map ((eI .u64).c true)),.els 1 (l2.map ((eI .u64).c true))]⟩
  refine EvL.rounds (α:=(Int×Int)) T62 (fun n a=>zbg p0 l1 n a.1 a.2=some o45) ((p0.net.nodes.length:Int) - 0+2:Int).toNat (v5,0) (by rw[hT62]; exact wm0 [.k,.k,.k] ⟨MB.cs ⟨qb1,qb1,qb1,qb1,qb1⟩,⟨MB.es (eI .u64) true l1,⟨MB.es (eI .u64) true l2,qb1⟩⟩⟩) j45 (fun _ h=>nomatch (show(none:Option Int)=some o45 from h)) ?_;rintro n ⟨v5',v74⟩ j45;simp only[zbg]at j45;rw[congrFun hT62 (v5',v74)];refine zaa ?_;try simp only[rnA,Nat.reduceEqDiff,Nat.reduceLT]
  cases c26:(decide (v74<(p0.net.nodes.length:Int)))
  ·rw[c26,cond_false]at j45;try simp only[rnA]
   replace j45:=qaa j45; subst j45;exact lfj hT45 rfl (wm0 [.k,.k,.k] ⟨MB.cs ⟨qb1,qb1,qb1,qb1,qb1⟩,⟨MB.es (eI .u64) true l1,⟨MB.es (eI .u64) true l2,qb1⟩⟩⟩)
  rw[c26,cond_true]at j45;try simp only[rnA,Nat.reduceEqDiff,Nat.reduceLT,el1]
  obtain⟨o66,j66,j45⟩:=bind_some j45;obtain⟨T66,hT66⟩:=mkT fun a:Int=>⟨123,[(1,(.ptr 0 0)),(3,(.sl 1 0 1 (Int.toNat (p0.net.nodes.length:Int)) (some (Int.toNat (p0.net.nodes.length:Int))) (Int.toNat (p0.net.nodes.length:Int)))),(4,(.sl 2 0 1 (Int.toNat (p0.net.nodes.length:Int)) (some (Int.toNat (p0.net.nodes.length:Int))) (Int.toNat (p0.net.nodes.length:Int)))),(5,(dU a)),(10,(dU v5)),(73,(dI (p0.net.nodes.length:Int))),(74,(dI v74))],[.cells [(dI p0.net.grain),(fzE false zac p0.net.nodes),(fzE false (eI .i64) p0.known),(dI p0.node)],.els 1 (l1.map ((eI .u64).c true)),.els 1 (l2.map ((eI .u64).c true))]⟩
  refine EvL.jn T66 (fun a=>a=o66) ?_ ?_
  ·refine zaa ?_;simp only[rnA];obtain⟨T69,hT69⟩:=mkT fun a:(Int×Int)=>⟨123,[(1,(.ptr 0 0)),(3,(.sl 1 0 1 (Int.toNat (p0.net.nodes.length:Int)) (some (Int.toNat (p0.net.nodes.length:Int))) (Int.toNat (p0.net.nodes.length:Int)))),(4,(.sl 2 0 1 (Int.toNat (p0.net.nodes.length:Int)) (some (Int.toNat (p0.net.nodes.length:Int))) (Int.toNat (p0.net.nodes.length:Int)))),(5,(dU a.1)),(10,(dU v5)),(73,(dI (p0.net.nodes.length:Int))),(74,(dI v74)),(76,(.sl 1 0 1 (Int.toNat (p0.net.nodes.length:Int)) (some (Int.toNat (p0.net.nodes.length:Int))) (Int.toNat (p0.net.nodes.length:Int)))),(77,(dI (((Int.toNat (p0.net.nodes.length:Int)):Nat):Int))),(78,(dI a.2))],[.cells [(dI p0.net.grain),(fzE false zac p0.net.nodes),(fzE false (eI .i64) p0.known),(dI p0.node)],.els 1 (l1.map ((eI .u64).c true)),.els 1 (l2.map ((eI .u64).c true))]⟩
   refine EvL.rounds (α:=(Int×Int)) T69 (fun n a=>zbj p0 l1 n a.1 a.2=some o66) ((((Int.toNat (p0.net.nodes.length:Int)):Nat):Int) - 0+2:Int).toNat (v5',0) (by rw[hT69]; exact wm0 [.k,.k,.k] ⟨MB.cs ⟨qb1,qb1,qb1,qb1,qb1⟩,⟨MB.es (eI .u64) true l1,⟨MB.es (eI .u64) true l2,qb1⟩⟩⟩) j66 (fun _ h=>nomatch (show(none:Option Int)=some o66 from h)) ?_;rintro n ⟨v5'',v78⟩ j66;simp only[zbj]at j66;rw[congrFun hT69 (v5'',v78)];refine zaa ?_;try simp only[rnA,Nat.reduceEqDiff,Nat.reduceLT]
   cases c27:(decide (v78<(((Int.toNat (p0.net.nodes.length:Int)):Nat):Int)))
   ·rw[c27,cond_false]at j66;try simp only[rnA,Nat.reduceEqDiff,Nat.reduceLT]
    replace j66:=qaa j66; subst j66;exact lfj hT66 rfl (wm0 [.k,.k,.k] ⟨MB.cs ⟨qb1,qb1,qb1,qb1,qb1⟩,⟨MB.es (eI .u64) true l1,⟨MB.es (eI .u64) true l2,qb1⟩⟩⟩)
   rw[c27,cond_true]at j66;obtain⟨x28,g29,j66⟩:=bind_some j66;obtain⟨q30,g31,j66⟩:=bind_some j66;try simp only[rnA,Nat.reduceEqDiff,Nat.reduceLT,el1,za3 g29,(show v78<(((Int.toNat (p0.net.nodes.length:Int)):Nat):Int)from el1 ▸ zaY g29),zaB g29 ((eI .u64).c true),(zaQ g31).2]
   obtain⟨o70,j70,j66⟩:=bind_some j66;obtain⟨T70,hT70⟩:=mkT fun a:Int=>⟨123,[(1,(.ptr 0 0)),(3,(.sl 1 0 1 (Int.toNat (p0.net.nodes.length:Int)) (some (Int.toNat (p0.net.nodes.length:Int))) (Int.toNat (p0.net.nodes.length:Int)))),(4,(.sl 2 0 1 (Int.toNat (p0.net.nodes.length:Int)) (some (Int.toNat (p0.net.nodes.length:Int))) (Int.toNat (p0.net.nodes.length:Int)))),(5,(dU a)),(10,(dU v5)),(73,(dI (p0.net.nodes.length:Int))),(74,(dI v74)),(76,(.sl 1 0 1 (Int.toNat (p0.net.nodes.length:Int)) (some (Int.toNat (p0.net.nodes.length:Int))) (Int.toNat (p0.net.nodes.length:Int)))),(77,(dI (((Int.toNat (p0.net.nodes.length:Int)):Nat):Int))),(78,(dI v78))],[.cells [(dI p0.net.grain),(fzE false zac p0.net.nodes),(fzE false (eI .i64) p0.known),(dI p0.node)],.els 1 (l1.map ((eI .u64).c true)),.els 1 (l2.map ((eI .u64).c true))]⟩
   refine EvL.jn T70 (fun a=>a=o70) ?_ ?_
   ·refine zaa ?_;try simp only[rnA,Nat.reduceEqDiff]
    cases c32:((zi0 .u64 q30 1)== 1)
    ·rw[c32,cond_false]at j70;try simp only[rnA]
     replace j70:=qaa j70; subst j70;exact lfj hT70 rfl (wm0 [.k,.k,.k] ⟨MB.cs ⟨qb1,qb1,qb1,qb1,qb1⟩,⟨MB.es (eI .u64) true l1,⟨MB.es (eI .u64) true l2,qb1⟩⟩⟩)
    rw[c32,cond_true]at j70;try simp only[rnA,Nat.reduceEqDiff,Nat.reduceLT]
    replace j70:=qaa j70; subst j70;exact lfj hT70 rfl (wm0 [.k,.k,.k] ⟨MB.cs ⟨qb1,qb1,qb1,qb1,qb1⟩,⟨MB.es (eI .u64) true l1,⟨MB.es (eI .u64) true l2,qb1⟩⟩⟩)
   rintro v5''' rfl;rw[congrFun hT70 v5'''];refine zaa ?_;try simp only[rnA,Nat.reduceEqDiff,Nat.reduceLT]
   exact⟨(v5''',(w64 (v78+1))),j66,by rw[hT69]; exact wm0 [.k,.k,.k] ⟨MB.cs ⟨qb1,qb1,qb1,qb1,qb1⟩,⟨MB.es (eI .u64) true l1,⟨MB.es (eI .u64) true l2,qb1⟩⟩⟩⟩
  rintro v5'' rfl;rw[congrFun hT66 v5''];refine zaa ?_;try simp only[rnA,Nat.reduceEqDiff,Nat.reduceLT]
  exact⟨(v5'',(w64 (v74+1))),j45,by rw[hT62]; exact wm0 [.k,.k,.k] ⟨MB.cs ⟨qb1,qb1,qb1,qb1,qb1⟩,⟨MB.es (eI .u64) true l1,⟨MB.es (eI .u64) true l2,qb1⟩⟩⟩⟩
 rintro v5' rfl;rw[congrFun hT45 v5'];refine zaa ?_;obtain⟨q33,g34,h⟩:=bind_some h;try simp only[rnA,Nat.reduceEqDiff,Nat.reduceLT,(zaQ g34).1,(zaQ g34).2]
 cases c35:((zi0 .u64 q33 1)== 1)
 ·rw[c35,cond_false]at h;try simp only[rnA,Nat.reduceEqDiff,Nat.reduceLT,zam]
  obtain⟨o74,j74,h⟩:=bind_some h;obtain⟨T74,hT74⟩:=mkT fun a:Int=>⟨123,[(13,(dU a))],[]⟩
  refine EvL.jn T74 (fun a=>a=o74) ?_ ?_
  ·refine zaa ?_;simp only[rnA];obtain⟨T77,hT77⟩:=mkT fun a:(Int×Int)=>⟨123,[(1,(.ptr 0 0)),(3,(.sl 1 0 1 (Int.toNat (p0.net.nodes.length:Int)) (some (Int.toNat (p0.net.nodes.length:Int))) (Int.toNat (p0.net.nodes.length:Int)))),(4,(.sl 2 0 1 (Int.toNat (p0.net.nodes.length:Int)) (some (Int.toNat (p0.net.nodes.length:Int))) (Int.toNat (p0.net.nodes.length:Int)))),(5,(dU v5')),(10,(dU v5)),(13,(dU a.1)),(102,(dI (p0.net.nodes.length:Int))),(103,(dI a.2))],[.cells [(dI p0.net.grain),(fzE false zac p0.net.nodes),(fzE false (eI .i64) p0.known),(dI p0.node)],.els 1 (l1.map ((eI .u64).c true)),.els 1 (l2.map ((eI .u64).c true))]⟩
   refine EvL.rounds (α:=(Int×Int)) T77 (fun n a=>zbl N p0 l1 l2 v5 v5' n a.1 a.2=some o74) ((p0.net.nodes.length:Int) - 0+2:Int).toNat (0,0) (by rw[hT77]; exact wm0 [.k,.k,.k] ⟨MB.cs ⟨qb1,qb1,qb1,qb1,qb1⟩,⟨MB.es (eI .u64) true l1,⟨MB.es (eI .u64) true l2,qb1⟩⟩⟩) j74 (fun _ h=>nomatch (show(none:Option Int)=some o74 from h)) ?_;rintro n ⟨v13,v103⟩ j74;simp only[zbl]at j74;rw[congrFun hT77 (v13,v103)];refine zaa ?_;try simp only[rnA,Nat.reduceEqDiff,Nat.reduceLT]
   cases c36:(decide (v103<(p0.net.nodes.length:Int)))
   ·rw[c36,cond_false]at j74;try simp only[rnA]
    replace j74:=qaa j74; subst j74;exact lfj hT74 rfl (wm0 [] (by exact trivial))
   rw[c36,cond_true]at j74;obtain⟨r37,g38,j74⟩:=bind_some j74;try simp only[rnA,Nat.reduceEqDiff,Nat.reduceLT]
   refine EvL.fn (zgz g38) rfl rfl (.cons (.lit _) (.cons (zaj (e:=(eI .u64)) (t:=true) rfl (.inl rfl) (el1).symm (el1).symm (fun k h=>by cases h; exact qae _) (fun h=>nomatch h)) (.cons (zaj (e:=(eI .u64)) (t:=true) rfl (.inl rfl) (el2).symm (el2).symm (fun k h=>by cases h; exact qae _) (fun h=>nomatch h)) (.cons (.lit _) (.cons (.lit _) .nil))))) ?_;obtain⟨q39,g40,j74⟩:=bind_some j74;try simp only[rnA,Nat.reduceEqDiff,Nat.reduceLT,(zaQ g40).1,(zaQ g40).2]
   obtain⟨o78,j78,j74⟩:=bind_some j74;obtain⟨T78,hT78⟩:=mkT fun a:Int=>⟨123,[(1,(.ptr 0 0)),(3,(.sl 1 0 1 (Int.toNat (p0.net.nodes.length:Int)) (some (Int.toNat (p0.net.nodes.length:Int))) (Int.toNat (p0.net.nodes.length:Int)))),(4,(.sl 2 0 1 (Int.toNat (p0.net.nodes.length:Int)) (some (Int.toNat (p0.net.nodes.length:Int))) (Int.toNat (p0.net.nodes.length:Int)))),(5,(dU v5')),(10,(dU v5)),(13,(dU a)),(102,(dI (p0.net.nodes.length:Int))),(103,(dI v103))],[.cells [(dI p0.net.grain),(fzE false zac p0.net.nodes),(fzE false (eI .i64) p0.known),(dI p0.node)],.els 1 (l1.map ((eI .u64).c true)),.els 1 (l2.map ((eI .u64).c true))]⟩
   refine EvL.jn T78 (fun a=>a=o78) ?_ ?_
   ·refine zaa ?_;try simp only[rnA,Nat.reduceEqDiff]
    cases c41:((zi0 .u64 q39 1)== 1)
    ·rw[c41,cond_false]at j78;try simp only[rnA]
     replace j78:=qaa j78; subst j78;exact lfj hT78 rfl (wm0 [.k,.k,.k] ⟨MB.cs ⟨qb1,qb1,qb1,qb1,qb1⟩,⟨MB.es (eI .u64) true l1,⟨MB.es (eI .u64) true l2,qb1⟩⟩⟩)
    rw[c41,cond_true]at j78;obtain⟨q42,g43,j78⟩:=bind_some j78;try simp only[rnA,Nat.reduceEqDiff,Nat.reduceLT,(za5 g43).1,(za5 g43).2]
    replace j78:=qaa j78; subst j78;exact lfj hT78 rfl (wm0 [.k,.k,.k] ⟨MB.cs ⟨qb1,qb1,qb1,qb1,qb1⟩,⟨MB.es (eI .u64) true l1,⟨MB.es (eI .u64) true l2,qb1⟩⟩⟩)
   rintro v13' rfl;rw[congrFun hT78 v13'];refine zaa ?_;try simp only[rnA,Nat.reduceEqDiff,Nat.reduceLT]
   exact⟨(v13',(w64 (v103+1))),j74,by rw[hT77]; exact wm0 [.k,.k,.k] ⟨MB.cs ⟨qb1,qb1,qb1,qb1,qb1⟩,⟨MB.es (eI .u64) true l1,⟨MB.es (eI .u64) true l2,qb1⟩⟩⟩⟩
  rintro v13 rfl;rw[congrFun hT74 v13];refine zaa ?_;try simp only[rnA,Nat.reduceEqDiff,Nat.reduceLT]
  replace h:=qaa h; subst h;exact za0.ret rfl (.lit _)
 rw[c35,cond_true]at h;try simp only[rnA,Nat.reduceLT]
 replace h:=qaa h; subst h;exact za0.ret rfl (.lit _)
def zap(N:Nat)(p0:S_api_Net)(p1:(List Int))(p2:Int):Option (Int×Int):=
(zb6 p0 p1 p2).bind fun r1=>
bif (r1.2 == 0)then(
(zbx N r1.1).bind fun r4=>
some (r4,0))
else(
some (0,r1.2))
theorem zaO{N:Nat}{p0:S_api_Net}{p1:(List Int)}{p2:Int}{r:(Int×Int)}(h:zap N p0 p1 p2=some r):Lx.Fn mC 43 [(.agg [(dI p0.grain),(fzE false zac p0.nodes)]),(fzE false (eI .i64) p1),(dI p2)] (.tup [(dU r.1),(dI r.2)]):=by
 refine fnO (by conv=>lhs; cbv) ?_;unfold zap at h;refine zaa ?_;obtain⟨r1,g2,h⟩:=bind_some h;try simp only[rnA,Nat.reduceEqDiff,reduceIte,Nat.reduceLT,Nat.reduceAdd,Nat.reduceLeDiff,Nat.reduceMul,Nat.reduceSub,Int.reduceLE,Int.reduceLT,Int.reduceBEq,Nat.reduceBEq,reduceCtorEq,zat,zc3,zcP]
 refine EvL.fnS (zcZ g2) rfl rfl (.cons (Mzs.agg (.cons (.lit _) (.cons (zal _ _ (fun h=>by cases h<;>contradiction)) .nil))) (.cons (zal _ _ (fun h=>by cases h<;>contradiction)) (.cons (.lit _) .nil))) ⟨⟨qb1,(zae _ _),qb1⟩,(zae _ _),qb1,qb1⟩ ⟨⟨qb1,(zae _ _),(zae _ _),qb1,qb1⟩,qb1,qb1⟩ ?_;try simp only[rnA,Nat.reduceEqDiff,reduceIte,Nat.reduceLT,Nat.reduceAdd,Nat.reduceLeDiff,Nat.reduceMul,Nat.reduceSub,Int.reduceLE,Int.reduceLT,Int.reduceBEq,Nat.reduceBEq,reduceCtorEq,zat,zc3]
 cases c3:(r1.2 == 0)
 ·rw[c3,cond_false]at h;try simp only[rnA,Nat.reduceEqDiff,reduceIte,Nat.reduceLT,Nat.reduceAdd,Nat.reduceLeDiff,Nat.reduceMul,Nat.reduceSub,Int.reduceLE,Int.reduceLT,Int.reduceBEq,Nat.reduceBEq,reduceCtorEq,zat,zc3,c3]
  replace h:=qaa h; subst h;exact za0.ret rfl (Snp.zb7 (.cons (.lit _) (.cons (.lit _) .nil)))
 rw[c3,cond_true]at h;obtain⟨r4,g5,h⟩:=bind_some h;try simp only[rnA,Nat.reduceEqDiff,reduceIte,Nat.reduceLT,Nat.reduceAdd,Nat.reduceLeDiff,Nat.reduceMul,Nat.reduceSub,Int.reduceLE,Int.reduceLT,Int.reduceBEq,Nat.reduceBEq,reduceCtorEq,zat,zc3,c3]
 refine EvL.fn (zcU g5) rfl rfl (.cons (.za8 (.cons (.lit _) (.cons (zad _ _ (fun h=>nomatch h)) (.cons (zad _ _ (fun h=>nomatch h)) (.cons (.lit _) .nil))))) .nil) ?_;try simp only[rnA,Nat.reduceEqDiff,reduceIte,Nat.reduceLT,Nat.reduceAdd,Nat.reduceLeDiff,Nat.reduceMul,Nat.reduceSub,Int.reduceLE,Int.reduceLT,Int.reduceBEq,Nat.reduceBEq,reduceCtorEq,zat,zc3,c3]
 replace h:=qaa h; subst h;exact za0.ret rfl (Snp.zb7 (.cons (.lit _) (.cons (.lit _) .nil)))
def zbL(N:Nat)(p0:S_eliminate_query)(p1:(List Int)):Option Bool:=
(znt .u64 1 (p0.net.nodes.length:Int)).bind fun q1=>
(zaM N p0 p1 (IntKind.u64.wrap (q1 - 1))).bind fun r3=>
some (r3.2 == 0)
theorem zeo{N:Nat}{p0:S_eliminate_query}{p1:(List Int)}{r:Bool}(h:zbL N p0 p1=some r):Lx.Fn mC 97 [(.agg [(dI p0.net.grain),(fzE false zac p0.net.nodes),(fzE false (eI .i64) p0.known),(dI p0.node)]),(fzE false (eI .i64) p1)] (dB r):=by
 refine fnO (by conv=>lhs; cbv) ?_;unfold zbL at h;refine zaa ?_;obtain⟨q1,g2,h⟩:=bind_some h;obtain⟨r3,g4,h⟩:=bind_some h;try simp only[rnA,Nat.reduceEqDiff,reduceIte,Nat.reduceLT,Nat.reduceAdd,Nat.reduceLeDiff,Nat.reduceMul,Nat.reduceSub,Int.reduceLE,Int.reduceLT,Int.reduceBEq,Nat.reduceBEq,reduceCtorEq,zat,zaw,zcP,zam,(za5 g2).1,(za5 g2).2]
 refine EvL.fn (zbE g4) rfl rfl (.cons (.za8 (.cons (.lit _) (.cons (zad _ _ (fun h=>nomatch h)) (.cons (zad _ _ (fun h=>nomatch h)) (.cons (.lit _) .nil))))) (.cons (zad _ _ (fun h=>nomatch h)) (.cons (.lit _) .nil))) ?_;try simp only[rnA,Nat.reduceEqDiff,reduceIte,Nat.reduceLT,Nat.reduceAdd,Nat.reduceLeDiff,Nat.reduceMul,Nat.reduceSub,Int.reduceLE,Int.reduceLT,Int.reduceBEq,Nat.reduceBEq,reduceCtorEq,zat,zaw]
 replace h:=qaa h; subst h;exact za0.ret rfl (.lit _)
def zcn(N:Nat)(p0:S_api_Net)(p1:(List Int))(p2:Int)(p3:(List Int)):Option ((List S_api_Q)×Int):=
(zb6 p0 p1 p2).bind fun r1=>
bif (r1.2 == 0)then(
(zaT r1.1 p3).bind fun r4=>
bif r4 then(
(zbL N r1.1 p3).bind fun r7=>
bif r7 then(
(zbx N r1.1).bind fun r10=>
(zaM N r1.1 p3 r10).bind fun r12=>
some (r12.1,r12.2))
else(
some ([],7)))
else(
some ([],2)))
else(
some ([],r1.2))
theorem zeX{N:Nat}{p0:S_api_Net}{p1:(List Int)}{p2:Int}{p3:(List Int)}{r:((List S_api_Q)×Int)}(h:zcn N p0 p1 p2 p3=some r):Lx.Fn mC 44 [(.agg [(dI p0.grain),(fzE false zac p0.nodes)]),(fzE false (eI .i64) p1),(dI p2),(fzE false (eI .i64) p3)] (.tup [(fzE true zaq r.1),(dI r.2)]):=by
 refine fnO (by conv=>lhs; cbv) ?_;unfold zcn at h;refine zaa ?_;obtain⟨r1,g2,h⟩:=bind_some h;try simp only[rnA,Nat.reduceEqDiff,Nat.reduceLT,Nat.reduceAdd,Nat.reduceLeDiff,reduceCtorEq]
 refine EvL.fnS (zcZ g2) rfl rfl (.cons (Mzs.agg (.cons (.lit _) (.cons (zal _ _ (fun h=>by cases h<;>contradiction)) .nil))) (.cons (zal _ _ (fun h=>by cases h<;>contradiction)) (.cons (.lit _) .nil))) ⟨⟨qb1,(zae _ _),qb1⟩,(zae _ _),qb1,qb1⟩ ⟨⟨qb1,(zae _ _),(zae _ _),qb1,qb1⟩,qb1,qb1⟩ ?_;try simp only[rnA,Nat.reduceEqDiff,Nat.reduceLT,Nat.reduceAdd,Nat.reduceLeDiff,reduceCtorEq]
 cases c3:(r1.2 == 0)
 ·rw[c3,cond_false]at h;try simp only[rnA,Nat.reduceEqDiff,Nat.reduceLT,reduceCtorEq]
  replace h:=qaa h; subst h;exact za0.ret rfl (Snp.zb7 (.cons (zah zaq) (.cons (.lit _) .nil)))
 rw[c3,cond_true]at h;obtain⟨r4,g5,h⟩:=bind_some h;try simp only[rnA,Nat.reduceEqDiff,Nat.reduceLT,Nat.reduceAdd,Nat.reduceLeDiff,reduceCtorEq]
 refine EvL.fn (zbK g5) rfl rfl (.cons (.za8 (.cons (.lit _) (.cons (zad _ _ (fun h=>nomatch h)) (.cons (zad _ _ (fun h=>nomatch h)) (.cons (.lit _) .nil))))) (.cons (zad _ _ (fun h=>nomatch h)) .nil)) ?_;try simp only[rnA,Nat.reduceEqDiff,Nat.reduceLT,reduceCtorEq]
 cases c6:r4
 ·rw[c6,cond_false]at h;try simp only[rnA,Nat.reduceLT]
  replace h:=qaa h; subst h;exact za0.ret rfl (Snp.zb7 (.cons (zah zaq) (.cons (.lit _) .nil)))
 rw[c6,cond_true]at h;obtain⟨r7,g8,h⟩:=bind_some h;try simp only[rnA,Nat.reduceEqDiff,Nat.reduceLT,Nat.reduceAdd,Nat.reduceLeDiff,reduceCtorEq]
 refine EvL.fn (zeo g8) rfl rfl (.cons (.za8 (.cons (.lit _) (.cons (zad _ _ (fun h=>nomatch h)) (.cons (zad _ _ (fun h=>nomatch h)) (.cons (.lit _) .nil))))) (.cons (zad _ _ (fun h=>nomatch h)) .nil)) ?_;try simp only[rnA,Nat.reduceEqDiff,Nat.reduceLT,reduceCtorEq]
 cases c9:r7
 ·rw[c9,cond_false]at h;try simp only[rnA,Nat.reduceLT]
  replace h:=qaa h; subst h;exact za0.ret rfl (Snp.zb7 (.cons (zah zaq) (.cons (.lit _) .nil)))
 rw[c9,cond_true]at h;obtain⟨r10,g11,h⟩:=bind_some h;try simp only[rnA,Nat.reduceEqDiff,Nat.reduceLT,Nat.reduceAdd,Nat.reduceLeDiff,reduceCtorEq]
 refine EvL.fn (zcU g11) rfl rfl (.cons (.za8 (.cons (.lit _) (.cons (zad _ _ (fun h=>nomatch h)) (.cons (zad _ _ (fun h=>nomatch h)) (.cons (.lit _) .nil))))) .nil) ?_;obtain⟨r12,g13,h⟩:=bind_some h;try simp only[rnA,Nat.reduceLT]
 refine EvL.fn (zbE g13) rfl rfl (.cons (.za8 (.cons (.lit _) (.cons (zad _ _ (fun h=>nomatch h)) (.cons (zad _ _ (fun h=>nomatch h)) (.cons (.lit _) .nil))))) (.cons (zad _ _ (fun h=>nomatch h)) (.cons (.lit _) .nil))) ?_;try simp only[rnA,Nat.reduceEqDiff,Nat.reduceLT,reduceCtorEq]
 replace h:=qaa h; subst h;exact za0.ret rfl (Snp.zb7 (.cons (zad _ _ (fun _=>rfl)) (.cons (.lit _) .nil)))
def zb2:List StI→Int→Int→Option (Int×Int)
 | [],b1_0,b2_0=>some (b1_0,b2_0)
 | y16 :: ys,b1_0,b2_0=>(
zb2 ys (w64 (b1_0+(w64 ((w64 (y16.1.count - 1))* (y16.1.product.w.length:Int))))) (zjc b2_0 (y16.1.product.w.length:Int)))
def zaW(p0:S_api_Net)(p1:(List Int))(p2:Int)(p3:(List Int)):Option (Int×Int×Int):=
(zb6 p0 p1 p2).bind fun r1=>
bif (r1.2 == 0)then(
(zaT r1.1 p3).bind fun r4=>
bif r4 then(
(znt .u64 1 (r1.1.net.nodes.length:Int)).bind fun q7=>
(zbp r1.1 (IntKind.u64.wrap (q7 - 1))).bind fun r9=>
bif (r9.2 == 0)then(
(zdC r1.1 r9.1 p3).bind fun r12=>
(zns r12.1 r12.2.1 r12.2.2).bind fun u14=>
((zb2 u14 0 0:Option (Int×Int))).bind fun o=>match o with
|(b1_0,b2_0)=>(
some (b1_0,b2_0,0)))
else(
some (0,0,r9.2)))
else(
some (0,0,2)))
else(
some (0,0,r1.2))
theorem zcC{p0:S_api_Net}{p1:(List Int)}{p2:Int}{p3:(List Int)}{r:(Int×Int×Int)}(h:zaW p0 p1 p2 p3=some r):Lx.Fn mC 45 [(.agg [(dI p0.grain),(fzE false zac p0.nodes)]),(fzE false (eI .i64) p1),(dI p2),(fzE false (eI .i64) p3)] (.tup [(dI r.1),(dI r.2.1),(dI r.2.2)]):=by
 refine fnO (by conv=>lhs; cbv) ?_;unfold zaW at h;refine zaa ?_;obtain⟨r1,g2,h⟩:=bind_some h;try simp only[rnA,Nat.reduceEqDiff,Nat.reduceLT,Nat.reduceAdd,Nat.reduceLeDiff,reduceCtorEq]
 refine EvL.fnS (zcZ g2) rfl rfl (.cons (Mzs.agg (.cons (.lit _) (.cons (zal _ _ (fun h=>by cases h<;>contradiction)) .nil))) (.cons (zal _ _ (fun h=>by cases h<;>contradiction)) (.cons (.lit _) .nil))) ⟨⟨qb1,(zae _ _),qb1⟩,(zae _ _),qb1,qb1⟩ ⟨⟨qb1,(zae _ _),(zae _ _),qb1,qb1⟩,qb1,qb1⟩ ?_;try simp only[rnA,Nat.reduceEqDiff,Nat.reduceLT,Nat.reduceAdd,Nat.reduceLeDiff,reduceCtorEq]
 cases c3:(r1.2 == 0)
 ·rw[c3,cond_false]at h;try simp only[rnA,Nat.reduceEqDiff,Nat.reduceLT,Nat.reduceLeDiff,reduceCtorEq]
  replace h:=qaa h; subst h;exact za0.ret rfl (Snp.zb7 (.cons (.lit _) (.cons (.lit _) (.cons (.lit _) .nil))))
 rw[c3,cond_true]at h;obtain⟨r4,g5,h⟩:=bind_some h;try simp only[rnA,Nat.reduceEqDiff,Nat.reduceLT,Nat.reduceAdd,Nat.reduceLeDiff,reduceCtorEq]
 refine EvL.fn (zbK g5) rfl rfl (.cons (.za8 (.cons (.lit _) (.cons (zad _ _ (fun h=>nomatch h)) (.cons (zad _ _ (fun h=>nomatch h)) (.cons (.lit _) .nil))))) (.cons (zad _ _ (fun h=>nomatch h)) .nil)) ?_;try simp only[rnA,Nat.reduceEqDiff,Nat.reduceLT,reduceCtorEq]
 cases c6:r4
 ·rw[c6,cond_false]at h;try simp only[rnA,Nat.reduceEqDiff,Nat.reduceLT,Nat.reduceLeDiff,reduceCtorEq]
  replace h:=qaa h; subst h;exact za0.ret rfl (Snp.zb7 (.cons (.lit _) (.cons (.lit _) (.cons (.lit _) .nil))))
 rw[c6,cond_true]at h;obtain⟨q7,g8,h⟩:=bind_some h;obtain⟨r9,g10,h⟩:=bind_some h;try simp only[rnA,Nat.reduceEqDiff,Nat.reduceLT,Nat.reduceAdd,Nat.reduceLeDiff,reduceCtorEq,zam,(za5 g8).1,(za5 g8).2]
 refine EvL.fn (zcG g10) rfl rfl (.cons (.za8 (.cons (.lit _) (.cons (zad _ _ (fun h=>nomatch h)) (.cons (zad _ _ (fun h=>nomatch h)) (.cons (.lit _) .nil))))) (.cons (.lit _) .nil)) ?_;try simp only[rnA,Nat.reduceEqDiff,Nat.reduceLT,reduceCtorEq]
 cases c11:(r9.2 == 0)
 ·rw[c11,cond_false]at h;try simp only[rnA,Nat.reduceEqDiff,Nat.reduceLT,Nat.reduceLeDiff,reduceCtorEq]
  replace h:=qaa h; subst h;exact za0.ret rfl (Snp.zb7 (.cons (.lit _) (.cons (.lit _) (.cons (.lit _) .nil))))
 rw[c11,cond_true]at h;obtain⟨r12,g13,h⟩:=bind_some h;try simp only[rnA,Nat.reduceEqDiff,Nat.reduceLT,Nat.reduceAdd,Nat.reduceLeDiff,reduceCtorEq]
 refine EvL.fnT (r:=(.clo 127 [] [(.fptr false ((eL (eI .i64)).c false r12.2.2)),(.fptr false (zao.c false r12.1)),(.ptr 5 0)])) (L':=[.cells [(dI p0.grain),(fzE false zac p0.nodes)],.cells [(dI 0)],.cells [(dI 0)],.cells [(dI r1.1.net.grain),(fzE false zac r1.1.net.nodes),(fzE false (eI .i64) r1.1.known),(dI r1.1.node)],.gone,.cells [(fzE false zab r12.2.1)]]) (zeA g13) rfl rfl (.cons (Mzs.agg (.cons (.lit _) (.cons (zal _ _ (fun h=>by cases h<;>contradiction)) (.cons (zal _ _ (fun h=>by cases h<;>contradiction)) (.cons (.lit _) .nil))))) (.cons (zal _ _ (fun h=>by cases h<;>contradiction)) (.cons (zal _ _ (fun h=>by cases h<;>contradiction)) .nil))) ⟨⟨qb1,(zae _ _),(zae _ _),qb1,qb1⟩,(zae _ _),(zae _ _),qb1⟩ ⟨⟨qb1,fun y hy=>by simp only[qa0,List.not_mem_nil,or_false]at hy; rcases hy with rfl | rfl | rfl<;>first | trivial | exact⟨rfl,(eL (eI .i64)).fr _⟩| exact⟨rfl,zao.fr _⟩⟩,qb1⟩ ⟨qb1,⟨⟨zae _ _,qb1⟩,qb1⟩⟩ rfl rfl ?_;try simp only[rnA,Nat.reduceLT,zaw]
 obtain⟨u14,g15,h⟩:=bind_some h;obtain⟨o1,j1,h⟩:=bind_some h;obtain⟨T1,hT1⟩:∃ T:(Int×Int)→LB→List LB,T=(fun a g=>[.cells [(dI p0.grain),(fzE false zac p0.nodes)],.cells [(dI a.1)],.cells [(dI a.2)],.cells [(dI r1.1.net.grain),(fzE false zac r1.1.net.nodes),(fzE false (eI .i64) r1.1.known),(dI r1.1.node)],.gone,g]):=⟨_,rfl⟩;refine EvL.zeH (S':=⟨65,[(8,(.ptr 1 0)),(9,(.ptr 2 0)),(45,(.clo 127 [] [(.fptr false ((eL (eI .i64)).c false r12.2.2)),(.fptr false (zao.c false r12.1)),(.ptr 5 0)]))],T1 (0,0) (stG r12.2.1 u14 0)⟩) (by rw[hT1,zls g15]; exact wm0 [.k,.k,.k,.k,.k,.k] ⟨MB.cs ⟨qb1,qb1,qb1⟩,⟨MB.cs ⟨qb1,qb1⟩,⟨MB.cs ⟨qb1,qb1⟩,⟨MB.cs ⟨qb1,qb1,qb1,qb1,qb1⟩,⟨MB.same trivial,⟨MB.same ⟨qb1,qb1⟩,qb1⟩⟩⟩⟩⟩⟩) ?_;refine EvL.zsD (n0:=6) (zlc g15 5) rfl (bm:=.block 1 (.seq (.reg false false [⟨some 47,.load none (.s 8),none⟩,⟨some 48,.fld 0 (.s 13),none⟩,⟨some 49,.load none (.s 48),none⟩,⟨some 50,.bin .sub (.s 49) (.c (.int .i64 1)),none⟩,⟨some 51,.fld 1 (.s 13),none⟩,⟨some 52,.fld 2 (.s 51),none⟩,⟨some 53,.load none (.s 52),none⟩,⟨some 54,.len (.s 53),none⟩,⟨some 55,.bin .mul (.s 50) (.s 54),none⟩,⟨some 56,.bin .add (.s 47) (.s 55),none⟩,⟨none,.store 1 (.s 8) (.s 56),none⟩]) (.reg false false [⟨some 57,.load none (.s 9),none⟩,⟨some 58,.fld 1 (.s 13),none⟩,⟨some 59,.fld 2 (.s 58),none⟩,⟨some 60,.load none (.s 59),none⟩,⟨some 61,.len (.s 60),none⟩,⟨some 62,.mm true [(.s 57),(.s 61)],none⟩,⟨none,.store 1 (.s 9) (.s 62),none⟩]))) rfl T1 (fun i a=>zb2 (u14.drop i) a.1 a.2=some o1) (fun x L1=>match x with | .normal=>∃ a,∃ g,(∀ kp,LB.kin kp g)∧(∀ n,LB.sc n g)∧o1=a∧L1=T1 a g | .ret=>L1.length=6∧zcH (6+1) L1∧(za0 [.cell 8 none,.cell 9 none,.tmp 10] ((.tup [(dI r.1),(dI r.2.1),(dI r.2.2)]))) .ret ⟨65,[(8,(.ptr 1 0)),(9,(.ptr 2 0)),(45,(.clo 127 [] [(.fptr false ((eL (eI .i64)).c false r12.2.2)),(.fptr false (zao.c false r12.1)),(.ptr 5 0)]))],L1 ++ [.lost]⟩| _=>False) (0,0) (by decide) ?_ ?_ ?_ (zkf _ _) (qbn _) ?_ (znf _ _) ?_ ?_ (fun d L1 hx=>hx.elim) ?_ ?_ ?_ ?_ ?_ ?_
 ·intros; rw[hT1]; rfl
 ·intros; rw[hT1]; rfl
 ·intros; rw[hT1]; rfl
 ·exact⟨(qac rfl),(qac rfl),⟨qb1,⟨qb1,qb1,(qac rfl),qb1⟩⟩,qb1⟩
 ·intro a g hgs; rw[hT1]; exact⟨⟨qb1,qb1,qb1⟩,⟨qb1,qb1⟩,⟨qb1,qb1⟩,⟨qb1,qb1,qb1,qb1,qb1⟩,qb1,(hgs _),qb1⟩
 ·intro x L1 hx;cases x with
  | normal=>obtain⟨a,g,hgk,hgs,_,rfl⟩:=hx; exact⟨by rw[hT1]; rfl,by rw[hT1]; exact⟨⟨qb1,qb1,qb1⟩,⟨qb1,qb1⟩,⟨qb1,qb1⟩,⟨qb1,qb1,qb1,qb1,qb1⟩,qb1,(hgs _),qb1⟩⟩
  | ret=>exact⟨hx.1,hx.2.1⟩
  | exit id=>exact hx.elim
  | panic d=>exact hx.elim
 ·exact j1
 ·rintro i ⟨b1_0,b2_0⟩ y16 args G lpF g hy hi1 ⟨rfl,gB,hgB,rfl⟩ hkin hgk;rw[zes hy]at hi1;simp only[zb2]at hi1;refine⟨_,_,_,rfl,.box (by decide) (by decide) rfl rfl rfl rfl,?_⟩;rw[congrFun (congrFun hT1 (b1_0,b2_0)) g];refine zaa ?_;try simp only[rnA,Nat.reduceEqDiff,Nat.reduceLT,Nat.reduceAdd,Nat.reduceLeDiff,zaw,zam]
  exact⟨T1 ((w64 (b1_0+(w64 ((w64 (y16.1.count - 1))* (y16.1.product.w.length:Int))))),(zjc b2_0 (y16.1.product.w.length:Int))) g,by rw[hT1]; rfl,by rw[hT1]; exact zaV.mK [.k,.k,.k,.k,.k,.k,.k,.k,.k] rfl rfl qb1 ⟨MB.cs ⟨qb1,qb1,qb1⟩,⟨MB.cs ⟨qb1,qb1⟩,⟨MB.cs ⟨qb1,qb1⟩,⟨MB.cs ⟨qb1,qb1,qb1,qb1,qb1⟩,⟨MB.same trivial,⟨MB.same (hgk _),⟨.same (hkin _ (by decide)),⟨MB.same trivial,⟨MB.same (hgB _),qb1⟩⟩⟩⟩⟩⟩⟩⟩⟩,((w64 (b1_0+(w64 ((w64 (y16.1.count - 1))* (y16.1.product.w.length:Int))))),(zjc b2_0 (y16.1.product.w.length:Int))),hi1,rfl⟩
 ·rintro⟨b1_0,b2_0⟩ i hi1;rw[qbi]at hi1;simp only[zb2]at hi1;exact⟨(b1_0,b2_0),_,zkf _ _ _,znf _ _ _,(qaa hi1).symm,rfl⟩
 ·rintro _ ⟨⟨b1_0,b2_0⟩,g,hgk,hgs,rfl,rfl⟩;dsimp only at h;rw[congrFun (congrFun hT1 (b1_0,b2_0)) g];refine zaa ?_;try simp only[rnA,Nat.reduceEqDiff,Nat.reduceLT,Nat.reduceLeDiff,Nat.reduceBEq,zaw]
  replace h:=qaa h; subst h;exact za0.ret rfl (Snp.zb7 (.cons (.lit _) (.cons (.lit _) (.cons (.lit _) .nil))))
 ·intro id L1 hx; exact hx.elim
 intro L1 hx; exact hx.2.2
def zcX(N:Nat)(p0:(List S_api_Q))(p1:Int)(p2:Int)(p3:Int)(p4:Int):Option Bool:=
((bif (p1 == 0)then(
(zhV N p2 p4).bind fun r2=>
(zhV N p3 p4).bind fun r4=>
(zgC p0 [r2,r4]).bind fun r6=>
some r6)
else(
some false):Option Bool)).bind fun v10=>
some v10
theorem ze3{N:Nat}{p0:(List S_api_Q)}{p1:Int}{p2:Int}{p3:Int}{p4:Int}{r:Bool}(h:zcX N p0 p1 p2 p3 p4=some r):Lx.Fn mC 46 [(fzE false zaq p0),(dI p1),(dI p2),(dI p3),(dI p4)] (dB r):=by
 refine fnO (by conv=>lhs; cbv) ?_;unfold zcX at h;refine zaa ?_;try simp only[rnA,Nat.reduceEqDiff,reduceIte,Nat.reduceLT,Nat.reduceAdd,Nat.reduceLeDiff,Nat.reduceMul,Nat.reduceSub,Int.reduceLE,Int.reduceLT,Int.reduceBEq,Nat.reduceBEq,reduceCtorEq,zaH]
 obtain⟨o1,j1,h⟩:=bind_some h;obtain⟨T1,hT1⟩:=mkT fun a:Bool=>⟨24,[(10,(dB a))],[]⟩
 refine EvL.jn T1 (fun a=>a=o1) ?_ ?_
 ·refine zaa ?_;try simp only[rnA,Nat.reduceEqDiff,reduceIte,Nat.reduceLT,Nat.reduceAdd,Nat.reduceLeDiff,Nat.reduceMul,Nat.reduceSub,Int.reduceLE,Int.reduceLT,Int.reduceBEq,Nat.reduceBEq,reduceCtorEq,zaH]
  cases c1:(p1 == 0)
  ·rw[c1,cond_false]at j1;try simp only[rnA,Nat.reduceEqDiff,reduceIte,Nat.reduceLT,Nat.reduceAdd,Nat.reduceLeDiff,Nat.reduceMul,Nat.reduceSub,Int.reduceLE,Int.reduceLT,Int.reduceBEq,Nat.reduceBEq,reduceCtorEq,zaH,c1]
   refine EvL.dead 7 23 [13] ⟨rfl,qb1⟩ rfl ?_;try simp only[rnA,Nat.reduceEqDiff,reduceIte,Nat.reduceLT,Nat.reduceAdd,Nat.reduceLeDiff,Nat.reduceMul,Nat.reduceSub,Int.reduceLE,Int.reduceLT,Int.reduceBEq,Nat.reduceBEq,reduceCtorEq,zaH,c1]
   replace j1:=qaa j1; subst j1;exact lfj hT1 rfl (wm0 [] (by exact trivial))
  rw[c1,cond_true]at j1;obtain⟨r2,g3,j1⟩:=bind_some j1;try simp only[rnA,Nat.reduceEqDiff,reduceIte,Nat.reduceLT,Nat.reduceAdd,Nat.reduceLeDiff,Nat.reduceMul,Nat.reduceSub,Int.reduceLE,Int.reduceLT,Int.reduceBEq,Nat.reduceBEq,reduceCtorEq,zaH,c1]
  refine EvL.fn (zkQ g3) rfl rfl (.cons (.lit _) (.cons (.lit _) .nil)) ?_;obtain⟨r4,g5,j1⟩:=bind_some j1;try simp only[rnA,Nat.reduceEqDiff,reduceIte,Nat.reduceLT,Nat.reduceAdd,Nat.reduceLeDiff,Nat.reduceMul,Nat.reduceSub,Int.reduceLE,Int.reduceLT,Int.reduceBEq,Nat.reduceBEq,reduceCtorEq,zaH,c1]
  refine EvL.fn (zkQ g5) rfl rfl (.cons (.lit _) (.cons (.lit _) .nil)) ?_;obtain⟨r6,g7,j1⟩:=bind_some j1;try simp only[rnA,Nat.reduceEqDiff,reduceIte,Nat.reduceLT,Nat.reduceAdd,Nat.reduceLeDiff,Nat.reduceMul,Nat.reduceSub,Int.reduceLE,Int.reduceLT,Int.reduceBEq,Nat.reduceBEq,reduceCtorEq,zaH,c1]
  refine EvL.fn (zlE g7) rfl rfl (.cons (zad _ _ (fun h=>nomatch h)) (.cons (zaj (e:=zaq) (t:=true) rfl (.inl rfl) rfl rfl (fun k h=>by cases h; exact qae _) (fun h=>nomatch h)) .nil)) ?_;try simp only[rnA,Nat.reduceEqDiff,reduceIte,Nat.reduceLT,Nat.reduceAdd,Nat.reduceLeDiff,Nat.reduceMul,Nat.reduceSub,Int.reduceLE,Int.reduceLT,Int.reduceBEq,Nat.reduceBEq,reduceCtorEq,zaH,c1]
  replace j1:=qaa j1; subst j1;exact lfj hT1 rfl (wm0 [] (by exact trivial))
 rintro v10 rfl;rw[congrFun hT1 v10];refine zaa ?_;try simp only[rnA,Nat.reduceEqDiff,reduceIte,Nat.reduceLT,Nat.reduceAdd,Nat.reduceLeDiff,Nat.reduceMul,Nat.reduceSub,Int.reduceLE,Int.reduceLT,Int.reduceBEq,Nat.reduceBEq,reduceCtorEq,zaH]
 replace h:=qaa h; subst h;exact za0.ret rfl (.lit _)
def zfb(N:Nat):Option Bool:=
(zdS).bind fun r1=>
(zai N r1 [(-1),(-1),(-1)] 1 [0,2]).bind fun r3=>
(zcn N r1 [(-1),(-1),1] 0 [1,2]).bind fun r5=>
(zaW r1 [(-1),(-1),(-1)] 1 [0,2]).bind fun r7=>
(zap N r1 [(-1),(-1),(-1)] 1).bind fun r9=>
(((zcX N r3.1 r3.2 5 3 8).bind fun r11=>
bif r11 then(
(zcX N r5.1 r5.2 2 3 5).bind fun r14=>
bif r14 then(
bif (r7.1 == 6)then(
bif (r7.2.1 == 4)then(
bif (r7.2.2 == 0)then(
bif (r9.1 == 3)then(
some (r9.2 == 0))
else(
some false))
else(
some false))
else(
some false))
else(
some false))
else(
some false))
else(
some false):Option Bool)).bind fun v0=>
some v0
theorem zlQ{N:Nat}{r:Bool}(h:zfb N=some r):Lx.Fn mC 40 [] (dB r):=by
 refine fnO (by conv=>lhs; cbv) ?_;unfold zfb at h;refine zaa ?_;obtain⟨r1,g2,h⟩:=bind_some h;try simp only[rnA,Nat.reduceLT]
 refine EvL.fn (zg9 g2) rfl rfl .nil ?_;obtain⟨r3,g4,h⟩:=bind_some h;try simp only[rnA,Nat.reduceEqDiff,Nat.reduceLT,Nat.reduceAdd,Nat.reduceLeDiff,reduceCtorEq]
 refine EvL.fn (zax g4) rfl rfl (.cons (.za8 (.cons (.lit _) (.cons (zad _ _ (fun h=>nomatch h)) .nil))) (.cons (zaj (e:=(eI .i64)) (t:=true) rfl (.inl rfl) rfl rfl (fun k h=>by cases h; exact qae _) (fun h=>nomatch h)) (.cons (.lit _) (.cons (zaj (e:=(eI .i64)) (t:=true) rfl (.inl rfl) rfl rfl (fun k h=>by cases h; exact qae _) (fun h=>nomatch h)) .nil)))) ?_;obtain⟨r5,g6,h⟩:=bind_some h;try simp only[rnA,Nat.reduceEqDiff,Nat.reduceLT,Nat.reduceAdd,Nat.reduceLeDiff,reduceCtorEq]
 refine EvL.fn (zeX g6) rfl rfl (.cons (.za8 (.cons (.lit _) (.cons (zad _ _ (fun h=>nomatch h)) .nil))) (.cons (zaj (e:=(eI .i64)) (t:=true) rfl (.inl rfl) rfl rfl (fun k h=>by cases h; exact qae _) (fun h=>nomatch h)) (.cons (.lit _) (.cons (zaj (e:=(eI .i64)) (t:=true) rfl (.inl rfl) rfl rfl (fun k h=>by cases h; exact qae _) (fun h=>nomatch h)) .nil)))) ?_;obtain⟨r7,g8,h⟩:=bind_some h;try simp only[rnA,Nat.reduceEqDiff,Nat.reduceLT,Nat.reduceAdd,Nat.reduceLeDiff,reduceCtorEq]
 refine EvL.fn (zcC g8) rfl rfl (.cons (.za8 (.cons (.lit _) (.cons (zad _ _ (fun h=>nomatch h)) .nil))) (.cons (zaj (e:=(eI .i64)) (t:=true) rfl (.inl rfl) rfl rfl (fun k h=>by cases h; exact qae _) (fun h=>nomatch h)) (.cons (.lit _) (.cons (zaj (e:=(eI .i64)) (t:=true) rfl (.inl rfl) rfl rfl (fun k h=>by cases h; exact qae _) (fun h=>nomatch h)) .nil)))) ?_;obtain⟨r9,g10,h⟩:=bind_some h;try simp only[rnA,Nat.reduceEqDiff,Nat.reduceLT,Nat.reduceAdd,Nat.reduceLeDiff,reduceCtorEq]
 refine EvL.fn (zaO g10) rfl rfl (.cons (.za8 (.cons (.lit _) (.cons (zad _ _ (fun h=>nomatch h)) .nil))) (.cons (zaj (e:=(eI .i64)) (t:=true) rfl (.inl rfl) rfl rfl (fun k h=>by cases h; exact qae _) (fun h=>nomatch h)) (.cons (.lit _) .nil))) ?_;try simp only[rnA,Nat.reduceEqDiff,Nat.reduceLT,reduceCtorEq]
 obtain⟨o1,j1,h⟩:=bind_some h;obtain⟨T1,hT1⟩:=mkT fun a:Bool=>⟨70,[(0,(dB a))],[]⟩
 refine EvL.jn T1 (fun a=>a=o1) ?_ ?_
 ·refine zaa ?_;obtain⟨r11,g12,j1⟩:=bind_some j1;try simp only[rnA,Nat.reduceEqDiff,Nat.reduceLT,reduceCtorEq]
  refine EvL.fn (ze3 g12) rfl rfl (.cons (zad _ _ (fun h=>nomatch h)) (.cons (.lit _) (.cons (.lit _) (.cons (.lit _) (.cons (.lit _) .nil))))) ?_;try simp only[rnA,Nat.reduceEqDiff,Nat.reduceLT,reduceCtorEq]
  cases c13:r11
  ·rw[c13,cond_false]at j1;try simp only[rnA,Nat.reduceEqDiff,Nat.reduceLT,reduceCtorEq]
   refine EvL.skip rfl ?_;try simp only[rnA,Nat.reduceEqDiff,Nat.reduceLT,reduceCtorEq]
   replace j1:=qaa j1; subst j1;exact lfj hT1 rfl (wm0 [] (by exact trivial))
  rw[c13,cond_true]at j1;obtain⟨r14,g15,j1⟩:=bind_some j1;try simp only[rnA,Nat.reduceEqDiff,Nat.reduceLT,reduceCtorEq]
  refine EvL.fn (ze3 g15) rfl rfl (.cons (zad _ _ (fun h=>nomatch h)) (.cons (.lit _) (.cons (.lit _) (.cons (.lit _) (.cons (.lit _) .nil))))) ?_;try simp only[rnA,Nat.reduceEqDiff,Nat.reduceLT,reduceCtorEq]
  cases c16:r14
  ·rw[c16,cond_false]at j1;try simp only[rnA,Nat.reduceEqDiff,Nat.reduceLT,reduceCtorEq]
   replace j1:=qaa j1; subst j1;exact lfj hT1 rfl (wm0 [] (by exact trivial))
  rw[c16,cond_true]at j1;try simp only[rnA,Nat.reduceEqDiff,Nat.reduceLT,reduceCtorEq]
  cases c17:(r7.1 == 6)
  ·rw[c17,cond_false]at j1;try simp only[rnA,Nat.reduceEqDiff,Nat.reduceLT,reduceCtorEq]
   replace j1:=qaa j1; subst j1;exact lfj hT1 rfl (wm0 [] (by exact trivial))
  rw[c17,cond_true]at j1;try simp only[rnA,Nat.reduceEqDiff,Nat.reduceLT,reduceCtorEq]
  cases c18:(r7.2.1 == 4)
  ·rw[c18,cond_false]at j1;try simp only[rnA,Nat.reduceEqDiff,Nat.reduceLT,reduceCtorEq]
   replace j1:=qaa j1; subst j1;exact lfj hT1 rfl (wm0 [] (by exact trivial))
  rw[c18,cond_true]at j1;try simp only[rnA,Nat.reduceEqDiff,Nat.reduceLT,reduceCtorEq]
  cases c19:(r7.2.2 == 0)
  ·rw[c19,cond_false]at j1;try simp only[rnA,Nat.reduceEqDiff,Nat.reduceLT,reduceCtorEq]
   replace j1:=qaa j1; subst j1;exact lfj hT1 rfl (wm0 [] (by exact trivial))
  rw[c19,cond_true]at j1;try simp only[rnA,Nat.reduceEqDiff,Nat.reduceLT,reduceCtorEq]
  cases c20:(r9.1 == 3)
  ·rw[c20,cond_false]at j1;try simp only[rnA,Nat.reduceEqDiff,Nat.reduceLT,reduceCtorEq]
   replace j1:=qaa j1; subst j1;exact lfj hT1 rfl (wm0 [] (by exact trivial))
  rw[c20,cond_true]at j1;try simp only[rnA,Nat.reduceEqDiff,Nat.reduceLT,reduceCtorEq]
  replace j1:=qaa j1; subst j1;exact lfj hT1 rfl (wm0 [] (by exact trivial))
 rintro v0 rfl;rw[congrFun hT1 v0];refine zaa ?_;try simp only[rnA]
 replace h:=qaa h; subst h;exact za0.ret rfl (.lit _)
end Go.Dc
