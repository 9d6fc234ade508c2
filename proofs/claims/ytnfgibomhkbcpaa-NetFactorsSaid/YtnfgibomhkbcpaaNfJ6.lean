/-
 What net_read computes. Conditions: none.
-/
import Derived.Test.YtnfgibomhkbcpaaNfJ5
set_option linter.unusedSimpArgs false
set_option linter.unusedVariables false
set_option maxRecDepth 100000
set_option maxHeartbeats 4000000
namespace Go.Dc
open Go Go.Mx Go.Lx Go.Proofs
def zbA(p0:S_api_Net):Nat→Int→Int→(List Int)→Option (Out (Int×(List Int)) (S_net_network×Int))
 | 0,_,_,_=>none
 | n+1,v5,v50,l2=>(
bif (decide (v50<(p0.nodes.length:Int)))then(
(zaP p0.nodes v50).bind fun x10=>
((bif (decide (x10.card<1))then(
some true)
else(
some (decide (4<x10.card))):Option Bool)).bind fun v62=>
bif v62 then(
some (.ret ((S_net_network.mk (S_api_Net.mk 0 []) [] [] []),50)))
else(
(zaP l2 v50).bind fun x14=>
(zfP l2 v50 x10.card).bind fun y16=>
zbA p0 n (w64 (v5 * x10.card)) (w64 (v50+1)) y16))
else(
some (.go (v5,l2))))
def zb3(x20:S_api_Node)(p0:S_api_Net)(v82:Int):Nat→Int→Int→(List Int)→Option (Out (List Int) (S_net_network×Int))
 | 0,_,_,_=>none
 | n+1,v10,v90,l3'=>(
bif (decide (v90<(x20.parents.length:Int)))then(
(zaP x20.parents v90).bind fun x23=>
((bif (decide (x23≤v10))then(
some true)
else(
bif (decide ((p0.nodes.length:Int)≤x23))then(
some true)
else(
some (x23 == v82))):Option Bool)).bind fun v109=>
bif v109 then(
some (.ret ((S_net_network.mk (S_api_Net.mk 0 []) [] [] []),50)))
else(
(zaP l3' v82).bind fun x28=>
(zso .u64 1 x23).bind fun q30=>
(zfP l3' v82 (orI .u64 x28 q30)).bind fun y32=>
zb3 x20 p0 v82 n x23 (w64 (v90+1)) y32))
else(
some (.go l3')))
def zby(p0:S_api_Net)(l2:(List Int)):Nat→Int→(List Int)→Option (Out (List Int) (S_net_network×Int))
 | 0,_,_=>none
 | n+1,v82,l3=>(
bif (decide (v82<(p0.nodes.length:Int)))then(
(zaP p0.nodes v82).bind fun x20=>
((zb3 x20 p0 v82 ((x20.parents.length:Int) - 0+2:Int).toNat (-1) 0 l3:Option (Out (List Int) (S_net_network×Int)))).bind fun o=>match o with
| .go l3'=>(
(zaN (S_net_network.mk p0 l2 l3' []) x20).bind fun r34=>
bif r34 then(
zby p0 l2 n (w64 (v82+1)) l3')
else(
some (.ret ((S_net_network.mk (S_api_Net.mk 0 []) [] [] []),50))))
| .ret r=>some (.ret r))
else(
some (.go l3)))
def zdl(p0:S_api_Net):Option (S_net_network×Int):=
((bif (decide (p0.grain<1))then(
some true)
else(
bif (decide (60<p0.grain))then(
some true)
else(
bif (decide ((p0.nodes.length:Int)<1))then(
some true)
else(
some (decide (8<(p0.nodes.length:Int)))))):Option Bool)).bind fun v34=>
bif v34 then(
some ((S_net_network.mk (S_api_Net.mk 0 []) [] [] []),50))
else(
(zfB 8 (p0.nodes.length:Int) 0).bind fun y5=>
(zfB 8 (p0.nodes.length:Int) 0).bind fun y7=>
((zbA p0 ((p0.nodes.length:Int) - 0+2:Int).toNat 1 0 y5:Option (Out (Int×(List Int)) (S_net_network×Int)))).bind fun o=>match o with
| .go (v5,l2)=>(
bif (decide (1024<v5))then(
some ((S_net_network.mk (S_api_Net.mk 0 []) [] [] []),50))
else(
((zby p0 l2 ((p0.nodes.length:Int) - 0+2:Int).toNat 0 y7:Option (Out (List Int) (S_net_network×Int)))).bind fun o=>match o with
| .go l3=>(
(zb0 l3).bind fun r37=>
bif r37.2 then(
some ((S_net_network.mk p0 l2 l3 r37.1),0))
else(
some ((S_net_network.mk (S_api_Net.mk 0 []) [] [] []),50)))
| .ret r=>some r))
| .ret r=>some r)
def ziB:C:=
 .seq (rg [oW 1 0,
 ⟨some 2,.alloc [(.int .i64 0),(.slice none 0 0),(.slice none 0 0),(.slice none 0 0),(.slice none 0 0)],none⟩,
 oK 3 0])
 (.seq (.seq (.scope (rg [oF 15 0 1,
 oL 16 15,
 oD 17 .lss 16 1,
 oM 18 17,
 oFg 19 0 1 18 false,
 oLg 20 19 18 false,
 oDg 21 .gtr 20 60 18 false,
 oP 22 18 21,
 oM 23 22,
 oFg 24 1 1 23 false,
 oLg 25 24 23 false,
 ⟨some 26,.len (.s 25),some (23,false)⟩,
 oDg 27 .lss 26 1 23 false,
 oP 28 23 27,
 oM 29 28,
 oFg 30 1 1 29 false,
 oLg 31 30 29 false,
 ⟨some 32,.len (.s 31),some (29,false)⟩,
 oDg 33 .gtr 32 8 29 false,
 oP 34 29 33]))
 (.cond (.s 34) (.seq (rg [⟨some 35,.build [(.int .i64 0),(.slice none 0 0),(.slice none 0 0),(.slice none 0 0),(.slice none 0 0)] [],none⟩,
 oS 5 2 35,
 oK 3 50])
 (.ret))
 (.skip)))
 (.seq (.reg true false [oN 36 2 1,
 oF 37 1 1,
 oL 38 37,
 oE 39 38,
 oF 41 1 1,
 oL 42 41,
 oE 43 42,
 ⟨some 40,.mk 1 8 [(.int .i64 0)] (.s 39) (.s 39),none⟩,
 ⟨some 44,.mk 1 8 [(.int .u64 0)] (.s 43) (.s 43),none⟩,
 ⟨some 45,.build [(.int .i64 0),(.slice none 0 0),(.slice none 0 0),(.slice none 0 0),(.slice none 0 0)] [(0,2,(.s 36)),(2,1,(.s 40)),(3,1,(.s 44))],none⟩,
 ⟨some 4,.alloc [(.int .i64 0),(.slice none 0 0),(.slice none 0 0),(.slice none 0 0),(.slice none 0 0)],none⟩,
 oS 5 4 45])
 (.seq (rg [oK 5 1])
 (.seq (.seq (rg [oF 46 0 4,
 oF 47 1 46,
 oL 48 47,
 oE 49 48,
 oK 50 0])
 (.scope (.block 0 (.loop (.seq (rg [oB 51 .lss 50 49])
 (.seq (.cond (.s 51) (.skip)
 (.exit 0))
 (.seq (.block 1 (.seq (rg [oM 52 50,
 oI 53 3 48 50,
 oN 54 3 53,
 ⟨some 7,.alloc [(.int .i64 0),(.slice none 0 0),(.slice none 0 0)],none⟩,
 oM 6 52,
 oS 3 7 54])
 (.seq (.seq (.scope (rg [oF 55 0 7,
 oL 56 55,
 oD 57 .lss 56 1,
 oM 58 57,
 oFg 59 0 7 58 false,
 oLg 60 59 58 false,
 oDg 61 .gtr 60 4 58 false,
 oP 62 58 61]))
 (.cond (.s 62) (.seq (rg [⟨some 63,.build [(.int .i64 0),(.slice none 0 0),(.slice none 0 0),(.slice none 0 0),(.slice none 0 0)] [],none⟩,
 oS 5 2 63,
 oK 3 50])
 (.ret))
 (.skip)))
 (.seq (rg [oF 64 2 4,
 oL 65 64,
 oM 66 6,
 oF 67 0 7,
 oL 68 67,
 oI 69 1 65 66,
 oS 1 69 68])
 (rg [oM 70 5,
 oF 71 0 7,
 oL 72 71,
 oB 73 .mul 70 72,
 oM 5 73])))))
 (rg [oD 74 .add 50 1,
 oM 50 74]))))))))
 (.seq (.seq (rg [oM 75 5,
 oD 76 .gtr 75 1024])
 (.cond (.s 76) (.seq (rg [⟨some 77,.build [(.int .i64 0),(.slice none 0 0),(.slice none 0 0),(.slice none 0 0),(.slice none 0 0)] [],none⟩,
 oS 5 2 77,
 oK 3 50])
 (.ret))
 (.skip)))
 (.seq (.seq (rg [oF 78 0 4,
 oF 79 1 78,
 oL 80 79,
 oE 81 80,
 oK 82 0])
 (.scope (.block 2 (.loop (.seq (rg [oB 83 .lss 82 81])
 (.seq (.cond (.s 83) (.skip)
 (.exit 2))
 (.seq (.block 3 (.seq (rg [oM 84 82,
 oI 85 3 80 82,
 oN 86 3 85,
 ⟨some 9,.alloc [(.int .i64 0),(.slice none 0 0),(.slice none 0 0)],none⟩,
 oM 8 84,
 oS 3 9 86])
 (.seq (rg [⟨some 10,.mov (.c (.int .i64 (-1))),none⟩])
 (.seq (.seq (rg [oF 87 1 9,
 oL 88 87,
 oE 89 88,
 oK 90 0])
 (.scope (.block 4 (.loop (.seq (rg [oB 91 .lss 90 89])
 (.seq (.cond (.s 91) (.skip)
 (.exit 4))
 (.seq (.block 5 (.seq (rg [oI 92 1 88 90,
 oL 93 92,
 oM 12 93])
 (.seq (.seq (.scope (rg [oM 94 12,
 oM 95 10,
 oB 96 .leq 94 95,
 oM 97 96,
 oMg 98 12 97 false,
 oFg 99 0 4 97 false,
 oFg 100 1 99 97 false,
 oLg 101 100 97 false,
 ⟨some 102,.len (.s 101),some (97,false)⟩,
 ⟨some 103,.bin .geq (.s 98) (.s 102),some (97,false)⟩,
 oP 104 97 103,
 oM 105 104,
 oMg 106 12 105 false,
 oMg 107 8 105 false,
 ⟨some 108,.bin .eql (.s 106) (.s 107),some (105,false)⟩,
 oP 109 105 108]))
 (.cond (.s 109) (.seq (rg [⟨some 110,.build [(.int .i64 0),(.slice none 0 0),(.slice none 0 0),(.slice none 0 0),(.slice none 0 0)] [],none⟩,
 oS 5 2 110,
 oK 3 50])
 (.ret))
 (.skip)))
 (.seq (rg [oM 111 12,
 oM 10 111])
 (.reg true false [oF 112 3 4,
 oL 113 112,
 oM 114 8,
 oI 115 1 113 114,
 oL 116 115,
 oM 117 12,
 ⟨some 118,.bin .shl (.c (.int .u64 1)) (.s 117),none⟩,
 oB 119 .or 116 118,
 oI 120 1 113 114,
 oS 1 120 119])))))
 (rg [oD 121 .add 90 1,
 oM 90 121]))))))))
 (.seq (rg [oN 122 5 4,
 oN 123 3 9,
 oV 124 123 122 123,
 ⟨some 125,.un .not (.s 124),none⟩])
 (.cond (.s 125) (.seq (rg [⟨some 126,.build [(.int .i64 0),(.slice none 0 0),(.slice none 0 0),(.slice none 0 0),(.slice none 0 0)] [],none⟩,
 oS 5 2 126,
 oK 3 50])
 (.ret))
 (.skip)))))))
 (rg [oD 127 .add 82 1,
 oM 82 127]))))))))
 (.seq (rg [oF 129 3 4,
 oL 130 129,
 oU 131 124 130,
 oM 128 131,
 oX 132 128 0,
 oX 133 128 1,
 oM 13 132,
 oM 14 133])
 (.seq (.seq (rg [oM 134 14,
 ⟨some 135,.un .not (.s 134),none⟩])
 (.cond (.s 135) (.seq (rg [⟨some 136,.build [(.int .i64 0),(.slice none 0 0),(.slice none 0 0),(.slice none 0 0),(.slice none 0 0)] [],none⟩,
 oS 5 2 136,
 oK 3 50])
 (.ret))
 (.skip)))
 (.seq (rg [oM 137 13,
 oF 138 4 4,
 oS 1 138 137])
 (.seq (rg [oN 139 5 4,
 oS 5 2 139,
 oK 3 0])
 (.ret)))))))))))
theorem zkw:zkn mC 77=some (140,ziB,[.cell 2 (some 5),.tmp 3],false):=zb5 (by kernel_rfl)
theorem zmI{p0:S_api_Net}{r:(S_net_network×Int)}(h:zdl p0=some r):Lx.FnA mC 77 [(.agg [(dI p0.grain),(fzE false zaa p0.nodes)])] (.tup [(.agg [(dI r.1.net.grain),(fzE false zaa r.1.net.nodes),(fzE false (eI .i64) r.1.cards),(fzE false (eI .u64) r.1.sets),(fzE false (eI .i64) r.1.order)]),(dI r.2)]):=by
 refine FnA.of zkw (zbF rfl) (qaf rfl) ?_;unfold zdl at h;simp only[ziB,ze3];refine zab ?_;try simp only[rnA,Nat.reduceLT]
 obtain⟨o1,j1,h⟩:=bind_some h;obtain⟨T1,hT1⟩:=mkT fun a:Bool=>⟨140,[(1,(.ptr 0 0)),(2,(.ptr 1 0)),(34,(dB a))],[.cells [(dI p0.grain),(fzE false zaa p0.nodes)],.cells [(dI 0),zbs,zbs,zbs,zbs]]⟩
 refine EvL.jn T1 (fun a=>a=o1) ?_ ?_
 ·refine zab ?_;try simp only[rnA,Nat.reduceEqDiff,Nat.reduceLT,reduceCtorEq]
  cases c1:(decide (p0.grain<1))
  ·rw[c1,cond_false]at j1;try simp only[rnA,Nat.reduceEqDiff,Nat.reduceLT,reduceCtorEq]
   cases c2:(decide (60<p0.grain))
   ·rw[c2,cond_false]at j1;try simp only[rnA,Nat.reduceEqDiff,Nat.reduceLT,reduceCtorEq,zam]
    cases c3:(decide ((p0.nodes.length:Int)<1))
    ·rw[c3,cond_false]at j1;try simp only[rnA,Nat.reduceEqDiff,Nat.reduceLT,reduceCtorEq,zam]
     replace j1:=qac j1; subst j1;exact lfj hT1 rfl (wm0 [.k,.k] ⟨MB.cs ⟨qdc,qdc,qdc⟩,⟨MB.cs ⟨qdc,qdc,qdc,qdc,qdc,qdc⟩,qdc⟩⟩)
    rw[c3,cond_true]at j1;try simp only[rnA,Nat.reduceEqDiff,Nat.reduceLT,reduceCtorEq]
    replace j1:=qac j1; subst j1;exact lfj hT1 rfl (wm0 [.k,.k] ⟨MB.cs ⟨qdc,qdc,qdc⟩,⟨MB.cs ⟨qdc,qdc,qdc,qdc,qdc,qdc⟩,qdc⟩⟩)
   rw[c2,cond_true]at j1;try simp only[rnA,Nat.reduceEqDiff,Nat.reduceLT,reduceCtorEq]
   replace j1:=qac j1; subst j1;exact lfj hT1 rfl (wm0 [.k,.k] ⟨MB.cs ⟨qdc,qdc,qdc⟩,⟨MB.cs ⟨qdc,qdc,qdc,qdc,qdc,qdc⟩,qdc⟩⟩)
  rw[c1,cond_true]at j1;try simp only[rnA,Nat.reduceEqDiff,Nat.reduceLT,reduceCtorEq]
  replace j1:=qac j1; subst j1;exact lfj hT1 rfl (wm0 [.k,.k] ⟨MB.cs ⟨qdc,qdc,qdc⟩,⟨MB.cs ⟨qdc,qdc,qdc,qdc,qdc,qdc⟩,qdc⟩⟩)
 rintro v34 rfl;rw[congrFun hT1 v34];refine zab ?_;try simp only[rnA,Nat.reduceEqDiff]
 cases c4:v34
 ·rw[c4,cond_false]at h;obtain⟨y5,g6,h⟩:=bind_some h;obtain⟨y7,g8,h⟩:=bind_some h;try simp only[rnA,Nat.reduceEqDiff,Nat.reduceLT,Nat.reduceAdd,Nat.reduceLeDiff,zam,(za8 g6).1.1,(za8 g6).1.2,qce,(show List.replicate (Int.toNat (p0.nodes.length:Int)) [(dI 0)]=y5.map ((eI .i64).c true)from zdy g6 ((eI .i64).c true)),(show List.replicate (Int.toNat (p0.nodes.length:Int)) [(dU 0)]=y7.map ((eI .u64).c true)from zdy g8 ((eI .u64).c true))]
  obtain⟨o5,j5,h⟩:=bind_some h;obtain⟨T5,hT5⟩:=mkT fun a:(Int×(List Int))=>⟨140,[(2,(.ptr 1 0)),(4,(.ptr 4 0)),(5,(dI a.1))],[.gone,.cells [(dI 0),zbs,zbs,zbs,zbs],.els 1 (a.2.map ((eI .i64).c true)),.els 1 (y7.map ((eI .u64).c true)),.cells [(dI p0.grain),(fzE false zaa p0.nodes),(.sl 2 0 1 (Int.toNat (p0.nodes.length:Int)) (some (Int.toNat (p0.nodes.length:Int))) (Int.toNat (p0.nodes.length:Int))),(.sl 3 0 1 (Int.toNat (p0.nodes.length:Int)) (some (Int.toNat (p0.nodes.length:Int))) (Int.toNat (p0.nodes.length:Int))),zbs]]⟩
  refine EvL.jn T5 (fun a=>o5=.go a∧a.2.length=(Int.toNat (p0.nodes.length:Int))) ?_ ?_
  ·refine zab ?_;simp only[rnA];obtain⟨T8,hT8⟩:=mkT fun a:(Int×Int×(List Int))=>⟨140,[(2,(.ptr 1 0)),(4,(.ptr 4 0)),(5,(dI a.1)),(48,(fzE false zaa p0.nodes)),(49,(dI (p0.nodes.length:Int))),(50,(dI a.2.1))],[.gone,.cells [(dI 0),zbs,zbs,zbs,zbs],.els 1 (a.2.2.map ((eI .i64).c true)),.els 1 (y7.map ((eI .u64).c true)),.cells [(dI p0.grain),(fzE false zaa p0.nodes),(.sl 2 0 1 (Int.toNat (p0.nodes.length:Int)) (some (Int.toNat (p0.nodes.length:Int))) (Int.toNat (p0.nodes.length:Int))),(.sl 3 0 1 (Int.toNat (p0.nodes.length:Int)) (some (Int.toNat (p0.nodes.length:Int))) (Int.toNat (p0.nodes.length:Int))),zbs]]⟩
   refine EvL.rounds (α:=(Int×Int×(List Int))) T8 (fun n a=>zbA p0 n a.1 a.2.1 a.2.2=some o5∧a.2.2.length=(Int.toNat (p0.nodes.length:Int))) ((p0.nodes.length:Int) - 0+2:Int).toNat (1,0,y5) (by rw[hT8]; exact wm0 [.d,.k,.k,.k,.k] ⟨rfl,⟨MB.cs ⟨qdc,qdc,qdc,qdc,qdc,qdc⟩,⟨MB.es (eI .i64) true y5,⟨MB.es (eI .u64) true y7,⟨MB.cs ⟨qdc,qdc,rfl,rfl,qdc,qdc⟩,qdc⟩⟩⟩⟩⟩) ⟨j5,zcl g6⟩ (fun _ h=>nomatch (show(none:Option (Out (Int×(List Int)) (S_net_network×Int)))=some o5 from h.1)) ?_;rintro n ⟨v5,v50,l2⟩ ⟨j5,el2⟩;simp only[zbA]at j5;rw[congrFun hT8 (v5,v50,l2)];refine zab ?_;try simp only[rnA,Nat.reduceEqDiff,Nat.reduceLT]
   cases c9:(decide (v50<(p0.nodes.length:Int)))
   ·rw[c9,cond_false]at j5;try simp only[rnA]
    replace j5:=qac j5; subst j5;exact⟨_,⟨rfl,el2⟩,by rw[hT5]; exact wm0 [.d,.k,.k,.k,.k] ⟨rfl,⟨MB.cs ⟨qdc,qdc,qdc,qdc,qdc,qdc⟩,⟨MB.es (eI .i64) true l2,⟨MB.es (eI .u64) true y7,⟨MB.cs ⟨qdc,qdc,rfl,rfl,qdc,qdc⟩,qdc⟩⟩⟩⟩⟩⟩
   rw[c9,cond_true]at j5;obtain⟨x10,g11,j5⟩:=bind_some j5;try simp only[rnA,Nat.reduceEqDiff,Nat.reduceLT,Nat.reduceAdd,Nat.reduceLeDiff,zad,zak (n:=3) (e:=zaa) rfl g11]
   obtain⟨o9,j9,j5⟩:=bind_some j5;obtain⟨T9,hT9⟩:=mkT fun a:Bool=>⟨140,[(2,(.ptr 1 0)),(4,(.ptr 4 0)),(5,(dI v5)),(6,(dI v50)),(7,(.ptr 5 0)),(48,(fzE false zaa p0.nodes)),(49,(dI (p0.nodes.length:Int))),(50,(dI v50)),(62,(dB a))],[.gone,.cells [(dI 0),zbs,zbs,zbs,zbs],.els 1 (l2.map ((eI .i64).c true)),.els 1 (y7.map ((eI .u64).c true)),.cells [(dI p0.grain),(fzE false zaa p0.nodes),(.sl 2 0 1 (Int.toNat (p0.nodes.length:Int)) (some (Int.toNat (p0.nodes.length:Int))) (Int.toNat (p0.nodes.length:Int))),(.sl 3 0 1 (Int.toNat (p0.nodes.length:Int)) (some (Int.toNat (p0.nodes.length:Int))) (Int.toNat (p0.nodes.length:Int))),zbs],.cells [(dI x10.card),(fzE false (eI .i64) x10.parents),(fzE false (eL (eI .i64)) x10.rows)]]⟩
   refine EvL.jn T9 (fun a=>a=o9) ?_ ?_
   ·refine zab ?_;try simp only[rnA,Nat.reduceEqDiff,Nat.reduceLT]
    cases c12:(decide (x10.card<1))
    ·rw[c12,cond_false]at j9;try simp only[rnA,Nat.reduceEqDiff,Nat.reduceLT]
     replace j9:=qac j9; subst j9;exact lfj hT9 rfl (wm0 [.d,.k,.k,.k,.k,.k] ⟨rfl,⟨MB.cs ⟨qdc,qdc,qdc,qdc,qdc,qdc⟩,⟨MB.es (eI .i64) true l2,⟨MB.es (eI .u64) true y7,⟨MB.cs ⟨qdc,qdc,rfl,rfl,qdc,qdc⟩,⟨MB.cs ⟨qdc,qdc,qdc,qdc⟩,qdc⟩⟩⟩⟩⟩⟩)
    rw[c12,cond_true]at j9;try simp only[rnA,Nat.reduceEqDiff,Nat.reduceLT]
    replace j9:=qac j9; subst j9;exact lfj hT9 rfl (wm0 [.d,.k,.k,.k,.k,.k] ⟨rfl,⟨MB.cs ⟨qdc,qdc,qdc,qdc,qdc,qdc⟩,⟨MB.es (eI .i64) true l2,⟨MB.es (eI .u64) true y7,⟨MB.cs ⟨qdc,qdc,rfl,rfl,qdc,qdc⟩,⟨MB.cs ⟨qdc,qdc,qdc,qdc⟩,qdc⟩⟩⟩⟩⟩⟩)
   rintro v62 rfl;rw[congrFun hT9 v62];refine zab ?_;try simp only[rnA,Nat.reduceEqDiff]
   cases c13:v62
   ·rw[c13,cond_false]at j5;obtain⟨x14,g15,j5⟩:=bind_some j5;obtain⟨y16,g17,j5⟩:=bind_some j5;try simp only[rnA,Nat.reduceEqDiff,Nat.reduceLT,Nat.reduceLeDiff,el2,zbk g15,(show v50<(((Int.toNat (p0.nodes.length:Int)):Nat):Int)from el2 ▸ zbD g15),zaZ g15 ((eI .i64).c true),(show(l2.map ((eI .i64).c true)).set v50.toNat [(dI x10.card)]=y16.map ((eI .i64).c true)from zb1 g17 ((eI .i64).c true))]
    exact⟨((w64 (v5 * x10.card)),(w64 (v50+1)),y16),⟨j5,(zbd g17).trans el2⟩,by rw[hT8]; exact wm0 [.d,.k,.k,.k,.k] ⟨rfl,⟨MB.cs ⟨qdc,qdc,qdc,qdc,qdc,qdc⟩,⟨MB.es (eI .i64) true y16,⟨MB.es (eI .u64) true y7,⟨MB.cs ⟨qdc,qdc,rfl,rfl,qdc,qdc⟩,qdc⟩⟩⟩⟩⟩⟩
   rw[c13,cond_true]at j5;try simp only[rnA,Nat.reduceEqDiff,Nat.reduceLT,Nat.reduceAdd,Nat.reduceLeDiff]
   replace j5:=qac j5; subst j5;dsimp only at h;replace h:=qac h; subst h;exact zl3.ret rfl (Snp.zos (.cons (.zc5 (.cons (.lit _) (.cons (zaV zaa) (.cons (zaV (eI .i64)) (.cons (zaV (eI .u64)) (.cons (zaV (eI .i64)) .nil)))))) (.cons (.lit _) .nil)))
  rintro⟨v5,l2⟩ ⟨rfl,el2⟩;dsimp only at h;rw[congrFun hT5 (v5,l2)];refine zab ?_;try simp only[rnA,Nat.reduceEqDiff,Nat.reduceLT]
  cases c18:(decide (1024<v5))
  ·rw[c18,cond_false]at h;try simp only[rnA,Nat.reduceEqDiff,Nat.reduceLT,zam]
   obtain⟨o34,j34,h⟩:=bind_some h;obtain⟨T34,hT34⟩:=mkT fun a:(List Int)=>⟨140,[(2,(.ptr 1 0)),(4,(.ptr 4 0))],[.gone,.cells [(dI 0),zbs,zbs,zbs,zbs],.els 1 (l2.map ((eI .i64).c true)),.els 1 (a.map ((eI .u64).c true)),.cells [(dI p0.grain),(fzE false zaa p0.nodes),(.sl 2 0 1 (Int.toNat (p0.nodes.length:Int)) (some (Int.toNat (p0.nodes.length:Int))) (Int.toNat (p0.nodes.length:Int))),(.sl 3 0 1 (Int.toNat (p0.nodes.length:Int)) (some (Int.toNat (p0.nodes.length:Int))) (Int.toNat (p0.nodes.length:Int))),zbs]]⟩
   refine EvL.jn T34 (fun a=>o34=.go a∧a.length=(Int.toNat (p0.nodes.length:Int))) ?_ ?_
   ·refine zab ?_;simp only[rnA];obtain⟨T51,hT51⟩:=mkT fun a:(Int×(List Int))=>⟨140,[(2,(.ptr 1 0)),(4,(.ptr 4 0)),(80,(fzE false zaa p0.nodes)),(81,(dI (p0.nodes.length:Int))),(82,(dI a.1))],[.gone,.cells [(dI 0),zbs,zbs,zbs,zbs],.els 1 (l2.map ((eI .i64).c true)),.els 1 (a.2.map ((eI .u64).c true)),.cells [(dI p0.grain),(fzE false zaa p0.nodes),(.sl 2 0 1 (Int.toNat (p0.nodes.length:Int)) (some (Int.toNat (p0.nodes.length:Int))) (Int.toNat (p0.nodes.length:Int))),(.sl 3 0 1 (Int.toNat (p0.nodes.length:Int)) (some (Int.toNat (p0.nodes.length:Int))) (Int.toNat (p0.nodes.length:Int))),zbs]]⟩
    refine EvL.rounds (α:=(Int×(List Int))) T51 (fun n a=>zby p0 l2 n a.1 a.2=some o34∧a.2.length=(Int.toNat (p0.nodes.length:Int))) ((p0.nodes.length:Int) - 0+2:Int).toNat (0,y7) (by rw[hT51]; exact wm0 [.d,.k,.k,.k,.k] ⟨rfl,⟨MB.cs ⟨qdc,qdc,qdc,qdc,qdc,qdc⟩,⟨MB.es (eI .i64) true l2,⟨MB.es (eI .u64) true y7,⟨MB.cs ⟨qdc,qdc,rfl,rfl,qdc,qdc⟩,qdc⟩⟩⟩⟩⟩) ⟨j34,zcl g8⟩ (fun _ h=>nomatch (show(none:Option (Out (List Int) (S_net_network×Int)))=some o34 from h.1)) ?_;rintro n ⟨v82,l3⟩ ⟨j34,el3⟩;simp only[zby]at j34;rw[congrFun hT51 (v82,l3)];refine zab ?_;try simp only[rnA,Nat.reduceEqDiff,Nat.reduceLT]
    cases c19:(decide (v82<(p0.nodes.length:Int)))
    ·rw[c19,cond_false]at j34;try simp only[rnA]
     replace j34:=qac j34; subst j34;exact⟨_,⟨rfl,el3⟩,by rw[hT34]; exact wm0 [.d,.k,.k,.k,.k] ⟨rfl,⟨MB.cs ⟨qdc,qdc,qdc,qdc,qdc,qdc⟩,⟨MB.es (eI .i64) true l2,⟨MB.es (eI .u64) true l3,⟨MB.cs ⟨qdc,qdc,rfl,rfl,qdc,qdc⟩,qdc⟩⟩⟩⟩⟩⟩
    rw[c19,cond_true]at j34;obtain⟨x20,g21,j34⟩:=bind_some j34;try simp only[rnA,Nat.reduceEqDiff,Nat.reduceLT,Nat.reduceAdd,Nat.reduceLeDiff,zad,zak (n:=3) (e:=zaa) rfl g21,zam]
    obtain⟨o55,j55,j34⟩:=bind_some j34;obtain⟨T55,hT55⟩:=mkT fun a:(List Int)=>⟨140,[(2,(.ptr 1 0)),(4,(.ptr 4 0)),(9,(.ptr 5 0)),(80,(fzE false zaa p0.nodes)),(81,(dI (p0.nodes.length:Int))),(82,(dI v82))],[.gone,.cells [(dI 0),zbs,zbs,zbs,zbs],.els 1 (l2.map ((eI .i64).c true)),.els 1 (a.map ((eI .u64).c true)),.cells [(dI p0.grain),(fzE false zaa p0.nodes),(.sl 2 0 1 (Int.toNat (p0.nodes.length:Int)) (some (Int.toNat (p0.nodes.length:Int))) (Int.toNat (p0.nodes.length:Int))),(.sl 3 0 1 (Int.toNat (p0.nodes.length:Int)) (some (Int.toNat (p0.nodes.length:Int))) (Int.toNat (p0.nodes.length:Int))),zbs],.cells [(dI x20.card),(fzE false (eI .i64) x20.parents),(fzE false (eL (eI .i64)) x20.rows)]]⟩
    refine EvL.jn T55 (fun a=>o55=.go a∧a.length=(Int.toNat (p0.nodes.length:Int))) ?_ ?_
    ·refine zab ?_;simp only[rnA];obtain⟨T58,hT58⟩:=mkT fun a:(Int×Int×(List Int))=>⟨140,[(2,(.ptr 1 0)),(4,(.ptr 4 0)),(8,(dI v82)),(9,(.ptr 5 0)),(10,(dI a.1)),(80,(fzE false zaa p0.nodes)),(81,(dI (p0.nodes.length:Int))),(82,(dI v82)),(88,(fzE false (eI .i64) x20.parents)),(89,(dI (x20.parents.length:Int))),(90,(dI a.2.1))],[.gone,.cells [(dI 0),zbs,zbs,zbs,zbs],.els 1 (l2.map ((eI .i64).c true)),.els 1 (a.2.2.map ((eI .u64).c true)),.cells [(dI p0.grain),(fzE false zaa p0.nodes),(.sl 2 0 1 (Int.toNat (p0.nodes.length:Int)) (some (Int.toNat (p0.nodes.length:Int))) (Int.toNat (p0.nodes.length:Int))),(.sl 3 0 1 (Int.toNat (p0.nodes.length:Int)) (some (Int.toNat (p0.nodes.length:Int))) (Int.toNat (p0.nodes.length:Int))),zbs],.cells [(dI x20.card),(fzE false (eI .i64) x20.parents),(fzE false (eL (eI .i64)) x20.rows)]]⟩
     refine EvL.rounds (α:=(Int×Int×(List Int))) T58 (fun n a=>zb3 x20 p0 v82 n a.1 a.2.1 a.2.2=some o55∧a.2.2.length=(Int.toNat (p0.nodes.length:Int))) ((x20.parents.length:Int) - 0+2:Int).toNat ((-1),0,l3) (by rw[hT58]; exact wm0 [.d,.k,.k,.k,.k,.k] ⟨rfl,⟨MB.cs ⟨qdc,qdc,qdc,qdc,qdc,qdc⟩,⟨MB.es (eI .i64) true l2,⟨MB.es (eI .u64) true l3,⟨MB.cs ⟨qdc,qdc,rfl,rfl,qdc,qdc⟩,⟨MB.cs ⟨qdc,qdc,qdc,qdc⟩,qdc⟩⟩⟩⟩⟩⟩) ⟨j55,el3⟩ (fun _ h=>nomatch (show(none:Option (Out (List Int) (S_net_network×Int)))=some o55 from h.1)) ?_;rintro n ⟨v10,v90,l3'⟩ ⟨j55,el3'⟩;simp only[zb3]at j55;rw[congrFun hT58 (v10,v90,l3')];refine zab ?_;try simp only[rnA,Nat.reduceEqDiff,Nat.reduceLT]
     cases c22:(decide (v90<(x20.parents.length:Int)))
     ·rw[c22,cond_false]at j55;try simp only[rnA,Nat.reduceEqDiff,Nat.reduceLT]
      replace j55:=qac j55; subst j55;exact⟨_,⟨rfl,el3'⟩,by rw[hT55]; exact wm0 [.d,.k,.k,.k,.k,.k] ⟨rfl,⟨MB.cs ⟨qdc,qdc,qdc,qdc,qdc,qdc⟩,⟨MB.es (eI .i64) true l2,⟨MB.es (eI .u64) true l3',⟨MB.cs ⟨qdc,qdc,rfl,rfl,qdc,qdc⟩,⟨MB.cs ⟨qdc,qdc,qdc,qdc⟩,qdc⟩⟩⟩⟩⟩⟩⟩
     rw[c22,cond_true]at j55;obtain⟨x23,g24,j55⟩:=bind_some j55;try simp only[rnA,Nat.reduceEqDiff,Nat.reduceLT,zak (n:=1) (e:=(eI .i64)) rfl g24]
     obtain⟨o59,j59,j55⟩:=bind_some j55;obtain⟨T59,hT59⟩:=mkT fun a:Bool=>⟨140,[(2,(.ptr 1 0)),(4,(.ptr 4 0)),(8,(dI v82)),(9,(.ptr 5 0)),(12,(dI x23)),(80,(fzE false zaa p0.nodes)),(81,(dI (p0.nodes.length:Int))),(82,(dI v82)),(88,(fzE false (eI .i64) x20.parents)),(89,(dI (x20.parents.length:Int))),(90,(dI v90)),(109,(dB a))],[.gone,.cells [(dI 0),zbs,zbs,zbs,zbs],.els 1 (l2.map ((eI .i64).c true)),.els 1 (l3'.map ((eI .u64).c true)),.cells [(dI p0.grain),(fzE false zaa p0.nodes),(.sl 2 0 1 (Int.toNat (p0.nodes.length:Int)) (some (Int.toNat (p0.nodes.length:Int))) (Int.toNat (p0.nodes.length:Int))),(.sl 3 0 1 (Int.toNat (p0.nodes.length:Int)) (some (Int.toNat (p0.nodes.length:Int))) (Int.toNat (p0.nodes.length:Int))),zbs],.cells [(dI x20.card),(fzE false (eI .i64) x20.parents),(fzE false (eL (eI .i64)) x20.rows)]]⟩
     refine EvL.jn T59 (fun a=>a=o59) ?_ ?_
     ·refine zab ?_;try simp only[rnA,Nat.reduceEqDiff,Nat.reduceLT]
      cases c25:(decide (x23≤v10))
      ·rw[c25,cond_false]at j59;try simp only[rnA,Nat.reduceEqDiff,Nat.reduceLT,zam]
       cases c26:(decide ((p0.nodes.length:Int)≤x23))
       ·rw[c26,cond_false]at j59;try simp only[rnA,Nat.reduceEqDiff,Nat.reduceLT]
        replace j59:=qac j59; subst j59;exact lfj hT59 rfl (wm0 [.d,.k,.k,.k,.k,.k] ⟨rfl,⟨MB.cs ⟨qdc,qdc,qdc,qdc,qdc,qdc⟩,⟨MB.es (eI .i64) true l2,⟨MB.es (eI .u64) true l3',⟨MB.cs ⟨qdc,qdc,rfl,rfl,qdc,qdc⟩,⟨MB.cs ⟨qdc,qdc,qdc,qdc⟩,qdc⟩⟩⟩⟩⟩⟩)
       rw[c26,cond_true]at j59;try simp only[rnA,Nat.reduceEqDiff,Nat.reduceLT]
       replace j59:=qac j59; subst j59;exact lfj hT59 rfl (wm0 [.d,.k,.k,.k,.k,.k] ⟨rfl,⟨MB.cs ⟨qdc,qdc,qdc,qdc,qdc,qdc⟩,⟨MB.es (eI .i64) true l2,⟨MB.es (eI .u64) true l3',⟨MB.cs ⟨qdc,qdc,rfl,rfl,qdc,qdc⟩,⟨MB.cs ⟨qdc,qdc,qdc,qdc⟩,qdc⟩⟩⟩⟩⟩⟩)
      rw[c25,cond_true]at j59;try simp only[rnA,Nat.reduceEqDiff,Nat.reduceLT]
      replace j59:=qac j59; subst j59;exact lfj hT59 rfl (wm0 [.d,.k,.k,.k,.k,.k] ⟨rfl,⟨MB.cs ⟨qdc,qdc,qdc,qdc,qdc,qdc⟩,⟨MB.es (eI .i64) true l2,⟨MB.es (eI .u64) true l3',⟨MB.cs ⟨qdc,qdc,rfl,rfl,qdc,qdc⟩,⟨MB.cs ⟨qdc,qdc,qdc,qdc⟩,qdc⟩⟩⟩⟩⟩⟩)
     rintro v109 rfl;rw[congrFun hT59 v109];refine zab ?_;try simp only[rnA,Nat.reduceEqDiff]
     cases c27:v109
     ·rw[c27,cond_false]at j55;obtain⟨x28,g29,j55⟩:=bind_some j55;obtain⟨q30,g31,j55⟩:=bind_some j55;obtain⟨y32,g33,j55⟩:=bind_some j55;try simp only[rnA,Nat.reduceEqDiff,Nat.reduceLT,Nat.reduceLeDiff,el3',zbk g29,(show v82<(((Int.toNat (p0.nodes.length:Int)):Nat):Int)from el3' ▸ zbD g29),zaZ g29 ((eI .u64).c true),(zd8 g31).1,(zd8 g31).2,(show(l3'.map ((eI .u64).c true)).set v82.toNat [(dU (orI .u64 x28 q30))]=y32.map ((eI .u64).c true)from zb1 g33 ((eI .u64).c true))]
      exact⟨(x23,(w64 (v90+1)),y32),⟨j55,(zbd g33).trans el3'⟩,by rw[hT58]; exact wm0 [.d,.k,.k,.k,.k,.k] ⟨rfl,⟨MB.cs ⟨qdc,qdc,qdc,qdc,qdc,qdc⟩,⟨MB.es (eI .i64) true l2,⟨MB.es (eI .u64) true y32,⟨MB.cs ⟨qdc,qdc,rfl,rfl,qdc,qdc⟩,⟨MB.cs ⟨qdc,qdc,qdc,qdc⟩,qdc⟩⟩⟩⟩⟩⟩⟩
     rw[c27,cond_true]at j55;try simp only[rnA,Nat.reduceEqDiff,Nat.reduceLT,Nat.reduceAdd,Nat.reduceLeDiff]
     replace j55:=qac j55; subst j55;dsimp only at j34;replace j34:=qac j34; subst j34;dsimp only at h;replace h:=qac h; subst h;exact zl3.ret rfl (Snp.zos (.cons (.zc5 (.cons (.lit _) (.cons (zaV zaa) (.cons (zaV (eI .i64)) (.cons (zaV (eI .u64)) (.cons (zaV (eI .i64)) .nil)))))) (.cons (.lit _) .nil)))
    rintro l3' ⟨rfl,el3'⟩;dsimp only at j34;rw[congrFun hT55 l3'];refine zab ?_;obtain⟨r34,g35,j34⟩:=bind_some j34;try simp only[rnA,Nat.reduceEqDiff,Nat.reduceLT,Nat.reduceAdd,Nat.reduceLeDiff]
    refine EvL.fn (zfi g35) rfl rfl (.cons (.zc5 (.cons (.lit _) (.cons (zat _ _ (fun h=>nomatch h)) (.cons (zal (e:=(eI .i64)) (t:=true) rfl (.inl rfl) (el2).symm (el2).symm (fun k h=>by cases h; exact qaj _) (fun h=>nomatch h)) (.cons (zal (e:=(eI .u64)) (t:=true) rfl (.inl rfl) (el3').symm (el3').symm (fun k h=>by cases h; exact qaj _) (fun h=>nomatch h)) (.cons (zaV (eI .i64)) .nil)))))) (.cons (.zc5 (.cons (.lit _) (.cons (zat _ _ (fun h=>nomatch h)) (.cons (zat _ _ (fun h=>nomatch h)) .nil)))) .nil)) ?_;try simp only[rnA,Nat.reduceEqDiff,Nat.reduceLT]
    cases c36:r34
    ·rw[c36,cond_false]at j34;try simp only[rnA,Nat.reduceEqDiff,Nat.reduceLT,Nat.reduceAdd,Nat.reduceLeDiff]
     replace j34:=qac j34; subst j34;dsimp only at h;replace h:=qac h; subst h;exact zl3.ret rfl (Snp.zos (.cons (.zc5 (.cons (.lit _) (.cons (zaV zaa) (.cons (zaV (eI .i64)) (.cons (zaV (eI .u64)) (.cons (zaV (eI .i64)) .nil)))))) (.cons (.lit _) .nil)))
    rw[c36,cond_true]at j34;try simp only[rnA,Nat.reduceEqDiff,Nat.reduceLT]
    exact⟨((w64 (v82+1)),l3'),⟨j34,el3'⟩,by rw[hT51]; exact wm0 [.d,.k,.k,.k,.k] ⟨rfl,⟨MB.cs ⟨qdc,qdc,qdc,qdc,qdc,qdc⟩,⟨MB.es (eI .i64) true l2,⟨MB.es (eI .u64) true l3',⟨MB.cs ⟨qdc,qdc,rfl,rfl,qdc,qdc⟩,qdc⟩⟩⟩⟩⟩⟩
   rintro l3 ⟨rfl,el3⟩;dsimp only at h;rw[congrFun hT34 l3];refine zab ?_;obtain⟨r37,g38,h⟩:=bind_some h;try simp only[rnA,Nat.reduceEqDiff,Nat.reduceLT]
   refine EvL.fn (zjT g38) rfl rfl (.cons (zal (e:=(eI .u64)) (t:=true) rfl (.inl rfl) (el3).symm (el3).symm (fun k h=>by cases h; exact qaj _) (fun h=>nomatch h)) .nil) ?_;try simp only[rnA,Nat.reduceEqDiff,Nat.reduceLT]
   cases c39:r37.2
   ·rw[c39,cond_false]at h;try simp only[rnA,Nat.reduceEqDiff,Nat.reduceLT,Nat.reduceAdd,Nat.reduceLeDiff]
    replace h:=qac h; subst h;exact zl3.ret rfl (Snp.zos (.cons (.zc5 (.cons (.lit _) (.cons (zaV zaa) (.cons (zaV (eI .i64)) (.cons (zaV (eI .u64)) (.cons (zaV (eI .i64)) .nil)))))) (.cons (.lit _) .nil)))
   rw[c39,cond_true]at h;try simp only[rnA,Nat.reduceEqDiff,Nat.reduceLT,Nat.reduceAdd,Nat.reduceLeDiff]
   replace h:=qac h; subst h;exact zl3.ret rfl (Snp.zos (.cons (.zc5 (.cons (.lit _) (.cons (zat _ _ (fun h=>nomatch h)) (.cons (zal (e:=(eI .i64)) (t:=true) rfl (.inl rfl) (el2).symm (el2).symm (fun k h=>by cases h; exact qaj _) (fun h=>nomatch h)) (.cons (zal (e:=(eI .u64)) (t:=true) rfl (.inl rfl) (el3).symm (el3).symm (fun k h=>by cases h; exact qaj _) (fun h=>nomatch h)) (.cons (zat _ _ (fun h=>nomatch h)) .nil)))))) (.cons (.lit _) .nil)))
  rw[c18,cond_true]at h;try simp only[rnA,Nat.reduceEqDiff,Nat.reduceLT,Nat.reduceAdd,Nat.reduceLeDiff]
  replace h:=qac h; subst h;exact zl3.ret rfl (Snp.zos (.cons (.zc5 (.cons (.lit _) (.cons (zaV zaa) (.cons (zaV (eI .i64)) (.cons (zaV (eI .u64)) (.cons (zaV (eI .i64)) .nil)))))) (.cons (.lit _) .nil)))
 rw[c4,cond_true]at h;try simp only[rnA,Nat.reduceEqDiff,Nat.reduceLT,Nat.reduceAdd,Nat.reduceLeDiff]
 replace h:=qac h; subst h;exact zl3.ret rfl (Snp.zos (.cons (.zc5 (.cons (.lit _) (.cons (zaV zaa) (.cons (zaV (eI .i64)) (.cons (zaV (eI .u64)) (.cons (zaV (eI .i64)) .nil)))))) (.cons (.lit _) .nil)))
def zbq(p0:(List Int))(p1:Int):Nat→Int→Option (Out Unit Bool)
 | 0,_=>none
 | n+1,v5=>(
bif (decide (v5<(p0.length:Int)))then(
(((zaP p0 v5).bind fun x2=>
bif (decide (x2<0))then(
some true)
else(
bif (decide (p1≤x2))then(
some true)
else(
bif (decide (0<v5))then(
(zaP p0 (w64 (v5 - 1))).bind fun x7=>
some (decide (x2≤x7)))
else(
some false))):Option Bool)).bind fun v40=>
bif v40 then(
some (.ret false))
else(
zbq p0 p1 n (w64 (v5+1))))
else(
some (.go ())))
def zdv(p0:(List Int))(p1:Int):Option Bool:=
((zbq p0 p1 ((p0.length:Int) - 0+2:Int).toNat 0:Option (Out Unit Bool))).bind fun o=>match o with
| .go _=>(
some true)
| .ret r=>some r
def zgY:C:=
 .seq (rg [oJ 4 false])
 (.seq (.seq (rg [oK 5 0])
 (.scope (.block 0 (.loop (.seq (.seq (rg [oM 6 5,
 oM 7 0,
 oE 8 7,
 oB 9 .lss 6 8])
 (.cond (.s 9) (.skip)
 (.exit 0)))
 (.seq (.block 1 (.seq (.scope (.reg true false [oM 12 0,
 oM 13 5,
 oI 14 1 12 13,
 oL 15 14,
 oD 16 .lss 15 0,
 oM 17 16,
 oMg 18 0 17 false,
 oMg 19 5 17 false,
 ⟨some 20,.idxS 1 (.s 18) (.s 19),some (17,false)⟩,
 oLg 21 20 17 false,
 oMg 22 1 17 false,
 ⟨some 23,.bin .geq (.s 21) (.s 22),some (17,false)⟩,
 oP 24 17 23,
 oM 25 24,
 oMg 26 5 25 false,
 oDg 27 .gtr 26 0 25 false,
 oMg 28 27 25 false,
 oMg 29 0 28 true,
 oMg 30 5 28 true,
 ⟨some 31,.idxS 1 (.s 29) (.s 30),some (28,true)⟩,
 oLg 32 31 28 true,
 oMg 33 0 28 true,
 oMg 34 5 28 true,
 oDg 35 .sub 34 1 28 true,
 ⟨some 36,.idxS 1 (.s 33) (.s 35),some (28,true)⟩,
 oLg 37 36 28 true,
 ⟨some 38,.bin .leq (.s 32) (.s 37),some (28,true)⟩,
 ⟨some 39,.pick (.s 28) (.s 38) (.c (.bool false)),some (25,false)⟩,
 oP 40 25 39]))
 (.cond (.s 40) (.seq (rg [oJ 4 false])
 (.ret))
 (.skip))))
 (rg [oM 10 5,
 oD 11 .add 10 1,
 oM 5 11])))))))
 (.seq (rg [oJ 4 true])
 (.ret)))
theorem zin:zkn mC 79=some (41,zgY,[.tmp 4],false):=zb5 (by kernel_rfl)
theorem zki{p0:(List Int)}{p1:Int}{r:Bool}(h:zdv p0 p1=some r):Lx.Fn mC 79 [(fzE false (eI .i64) p0),(dI p1)] (dB r):=by
 refine Fn.of zin (zbF rfl) (qaf rfl) ?_;unfold zdv at h;simp only[zgY,ze3];refine zab ?_;try simp only[rnA,Nat.reduceLT,Nat.reduceAdd]
 obtain⟨o4,j4,h⟩:=bind_some h;obtain⟨T4,hT4⟩:=mkT fun a:Unit=>⟨41,[],[]⟩
 refine EvL.jn T4 (fun a=>o4=.go a) ?_ ?_
 ·refine zab ?_;simp only[rnA];obtain⟨T7,hT7⟩:=mkT fun a:Int=>⟨41,[(0,(fzE false (eI .i64) p0)),(1,(dI p1)),(5,(dI a))],[]⟩
  refine EvL.rounds (α:=Int) T7 (fun n a=>zbq p0 p1 n a=some o4) ((p0.length:Int) - 0+2:Int).toNat 0 (by rw[hT7]; exact wm0 [] (by exact trivial)) j4 (fun _ h=>nomatch (show(none:Option (Out Unit Bool))=some o4 from h)) ?_;rintro n v5 j4;simp only[zbq]at j4;rw[congrFun hT7 v5];refine zab ?_;try simp only[rnA,Nat.reduceEqDiff,Nat.reduceLT,reduceCtorEq,zam]
  cases c1:(decide (v5<(p0.length:Int)))
  ·rw[c1,cond_false]at j4;try simp only[rnA]
   replace j4:=qac j4; subst j4;exact lfj hT4 rfl (wm0 [] (by exact trivial))
  rw[c1,cond_true]at j4;try simp only[rnA]
  obtain⟨o8,j8,j4⟩:=bind_some j4;obtain⟨T8,hT8⟩:=mkT fun a:Bool=>⟨41,[(0,(fzE false (eI .i64) p0)),(1,(dI p1)),(5,(dI v5)),(40,(dB a))],[]⟩
  refine EvL.jn T8 (fun a=>a=o8) ?_ ?_
  ·refine zab ?_;obtain⟨x2,g3,j8⟩:=bind_some j8;try simp only[rnA,Nat.reduceEqDiff,Nat.reduceLT,reduceCtorEq,zak (n:=1) (e:=(eI .i64)) rfl g3]
   cases c4:(decide (x2<0))
   ·rw[c4,cond_false]at j8;try simp only[rnA,Nat.reduceEqDiff,Nat.reduceLT,reduceCtorEq,zak (n:=1) (e:=(eI .i64)) rfl g3]
    cases c5:(decide (p1≤x2))
    ·rw[c5,cond_false]at j8;try simp only[rnA,Nat.reduceEqDiff,Nat.reduceLT,reduceCtorEq]
     cases c6:(decide (0<v5))
     ·rw[c6,cond_false]at j8;try simp only[rnA,Nat.reduceEqDiff,Nat.reduceLT,reduceCtorEq]
      replace j8:=qac j8; subst j8;exact lfj hT8 rfl (wm0 [] (by exact trivial))
     rw[c6,cond_true]at j8;obtain⟨x7,g8,j8⟩:=bind_some j8;try simp only[rnA,Nat.reduceEqDiff,Nat.reduceLT,reduceCtorEq,zak (n:=1) (e:=(eI .i64)) rfl g3,zak (n:=1) (e:=(eI .i64)) rfl g8]
     replace j8:=qac j8; subst j8;exact lfj hT8 rfl (wm0 [] (by exact trivial))
    rw[c5,cond_true]at j8;try simp only[rnA,Nat.reduceEqDiff,Nat.reduceLT,reduceCtorEq]
    replace j8:=qac j8; subst j8;exact lfj hT8 rfl (wm0 [] (by exact trivial))
   rw[c4,cond_true]at j8;try simp only[rnA,Nat.reduceEqDiff,Nat.reduceLT,reduceCtorEq]
   replace j8:=qac j8; subst j8;exact lfj hT8 rfl (wm0 [] (by exact trivial))
  rintro v40 rfl;rw[congrFun hT8 v40];refine zab ?_;try simp only[rnA,Nat.reduceEqDiff,reduceCtorEq]
  cases c9:v40
  ·rw[c9,cond_false]at j4;try simp only[rnA,Nat.reduceEqDiff,Nat.reduceLT,reduceCtorEq]
   exact⟨(w64 (v5+1)),j4,by rw[hT7]; exact wm0 [] (by exact trivial)⟩
  rw[c9,cond_true]at j4;try simp only[rnA,Nat.reduceLT]
  replace j4:=qac j4; subst j4;dsimp only at h;replace h:=qac h; subst h;exact zbO.ret rfl (.lit _)
 rintro⟨⟩ rfl;dsimp only at h;rw[congrFun hT4 ()];refine zab ?_;try simp only[rnA,Nat.reduceLT]
 replace h:=qac h; subst h;exact zbO.ret rfl (.lit _)
def zbI(p0:(List Int)):Nat→Int→Option (Out Unit Bool)
 | 0,_=>none
 | n+1,v3=>(
bif (decide (v3<(p0.length:Int)))then(
(zaP p0 v3).bind fun x2=>
(zgq p0 x2).bind fun r4=>
(zec r4 v3).bind fun r6=>
bif r6 then(
some (.ret false))
else(
zbI p0 n (w64 (v3+1))))
else(
some (.go ())))
def zcs(p0:(List Int)):Option Bool:=
((zbI p0 ((p0.length:Int) - 0+2:Int).toNat 0:Option (Out Unit Bool))).bind fun o=>match o with
| .go _=>(
some true)
| .ret r=>some r
theorem ziq{p0:(List Int)}{r:Bool}(h:zcs p0=some r):Lx.Fn mC 80 [(fzE false (eI .u64) p0)] (dB r):=by
 refine fnO (by conv=>lhs; cbv) ?_;unfold zcs at h;refine zab ?_;try simp only[rnA,Nat.reduceEqDiff,reduceIte,Nat.reduceLT,Nat.reduceAdd,Nat.reduceLeDiff,Nat.reduceMul,Nat.reduceSub,Int.reduceLE,Int.reduceLT,Int.reduceBEq,Nat.reduceBEq,reduceCtorEq]
 obtain⟨o1,j1,h⟩:=bind_some h;obtain⟨T1,hT1⟩:=mkT fun a:Unit=>⟨18,[],[]⟩
 refine EvL.jn T1 (fun a=>o1=.go a) ?_ ?_
 ·refine zab ?_;simp only[rnA,Nat.reduceEqDiff,reduceIte,Nat.reduceLT,Nat.reduceAdd,Nat.reduceLeDiff,Nat.reduceMul,Nat.reduceSub,Int.reduceLE,Int.reduceLT,Int.reduceBEq,Nat.reduceBEq,reduceCtorEq];obtain⟨T2,hT2⟩:=mkT fun a:Int=>⟨18,[(0,(fzE false (eI .u64) p0)),(3,(dI a))],[]⟩
  refine EvL.rounds (α:=Int) T2 (fun n a=>zbI p0 n a=some o1) ((p0.length:Int) - 0+2:Int).toNat 0 (by rw[hT2]; exact wm0 [] (by exact trivial)) j1 (fun _ h=>nomatch (show(none:Option (Out Unit Bool))=some o1 from h)) ?_;rintro n v3 j1;simp only[zbI]at j1;rw[congrFun hT2 v3];refine zab ?_;try simp only[rnA,Nat.reduceEqDiff,reduceIte,Nat.reduceLT,Nat.reduceAdd,Nat.reduceLeDiff,Nat.reduceMul,Nat.reduceSub,Int.reduceLE,Int.reduceLT,Int.reduceBEq,Nat.reduceBEq,reduceCtorEq,zam]
  cases c1:(decide (v3<(p0.length:Int)))
  ·rw[c1,cond_false]at j1;try simp only[rnA,Nat.reduceEqDiff,reduceIte,Nat.reduceLT,Nat.reduceAdd,Nat.reduceLeDiff,Nat.reduceMul,Nat.reduceSub,Int.reduceLE,Int.reduceLT,Int.reduceBEq,Nat.reduceBEq,reduceCtorEq,c1]
   replace j1:=qac j1; subst j1;exact lfj hT1 rfl (wm0 [] (by exact trivial))
  rw[c1,cond_true]at j1;obtain⟨x2,g3,j1⟩:=bind_some j1;obtain⟨r4,g5,j1⟩:=bind_some j1;try simp only[rnA,Nat.reduceEqDiff,reduceIte,Nat.reduceLT,Nat.reduceAdd,Nat.reduceLeDiff,Nat.reduceMul,Nat.reduceSub,Int.reduceLE,Int.reduceLT,Int.reduceBEq,Nat.reduceBEq,reduceCtorEq,zak (n:=1) (e:=(eI .u64)) rfl g3,c1]
  refine EvL.fn (zsd g5) rfl rfl (.cons (zat _ _ (fun h=>nomatch h)) (.cons (.lit _) .nil)) ?_;obtain⟨r6,g7,j1⟩:=bind_some j1;try simp only[rnA,Nat.reduceEqDiff,reduceIte,Nat.reduceLT,Nat.reduceAdd,Nat.reduceLeDiff,Nat.reduceMul,Nat.reduceSub,Int.reduceLE,Int.reduceLT,Int.reduceBEq,Nat.reduceBEq,reduceCtorEq,c1]
  refine EvL.fn (zhQ g7) rfl rfl (.cons (.lit _) (.cons (.lit _) .nil)) ?_;try simp only[rnA,Nat.reduceEqDiff,reduceIte,Nat.reduceLT,Nat.reduceAdd,Nat.reduceLeDiff,Nat.reduceMul,Nat.reduceSub,Int.reduceLE,Int.reduceLT,Int.reduceBEq,Nat.reduceBEq,reduceCtorEq,c1]
  cases c8:r6
  ·rw[c8,cond_false]at j1;try simp only[rnA,Nat.reduceEqDiff,reduceIte,Nat.reduceLT,Nat.reduceAdd,Nat.reduceLeDiff,Nat.reduceMul,Nat.reduceSub,Int.reduceLE,Int.reduceLT,Int.reduceBEq,Nat.reduceBEq,reduceCtorEq,c1,c8]
   exact⟨(w64 (v3+1)),j1,by rw[hT2]; exact wm0 [] (by exact trivial)⟩
  rw[c8,cond_true]at j1;try simp only[rnA,Nat.reduceEqDiff,reduceIte,Nat.reduceLT,Nat.reduceAdd,Nat.reduceLeDiff,Nat.reduceMul,Nat.reduceSub,Int.reduceLE,Int.reduceLT,Int.reduceBEq,Nat.reduceBEq,reduceCtorEq,c1,c8]
  replace j1:=qac j1; subst j1;dsimp only at h;replace h:=qac h; subst h;exact zbO.ret rfl (.lit _)
 rintro⟨⟩ rfl;dsimp only at h;rw[congrFun hT1 ()];refine zab ?_;try simp only[rnA,Nat.reduceEqDiff,reduceIte,Nat.reduceLT,Nat.reduceAdd,Nat.reduceLeDiff,Nat.reduceMul,Nat.reduceSub,Int.reduceLE,Int.reduceLT,Int.reduceBEq,Nat.reduceBEq,reduceCtorEq]
 replace h:=qac h; subst h;exact zbO.ret rfl (.lit _)
def zbw(p0:S_api_Net)(v4:Int):Nat→Int→Int→Option Int
 | 0,_,_=>none
 | n+1,v5,v6=>(
(zaP p0.nodes v4).bind fun x2=>
bif (decide (v6<(x2.parents.length:Int)))then(
(zaP x2.parents v6).bind fun x5=>
(zso .u64 1 (IntKind.u64.wrap x5)).bind fun q7=>
zbw p0 v4 n (orI .u64 v5 q7) (w64 (v6+1)))
else(
some v5))
def zbu(p0:S_api_Net):Nat→Int→(List Int)→Option (List Int)
 | 0,_,_=>none
 | n+1,v4,l1=>(
bif (decide (v4<(p0.nodes.length:Int)))then(
((zbw p0 v4 ((((zaP p0.nodes v4).getD default).parents.length:Int) - 0+2:Int).toNat 0 0:Option Int)).bind fun v5=>
(zcW 8 l1 [v5]).bind fun y11=>
zbu p0 n (w64 (v4+1)) y11)
else(
some l1))
def za6(p0:S_api_Net):Option (List Int):=
((zbu p0 ((p0.nodes.length:Int) - 0+2:Int).toNat 0 []:Option (List Int))).bind fun l1=>
some l1
theorem zeq{p0:S_api_Net}{r:(List Int)}(h:za6 p0=some r):Lx.Fn mC 81 [(.agg [(dI p0.grain),(fzE false zaa p0.nodes)])] (fzE true (eI .u64) r):=by
 refine fnO (by conv=>lhs; cbv) ?_;unfold za6 at h;refine zab ?_;try simp only[rnA,Nat.reduceLT]
 obtain⟨o9,j9,h⟩:=bind_some h;obtain⟨T9,hT9⟩:=mkT fun a:(List Int)=>⟨43,[(3,(.sl 1 0 1 a.length none a.length))],[.gone,.grow 1 (a.map ((eI .u64).c true))]⟩
 refine EvL.jn T9 (fun a=>a=o9) ?_ ?_
 ·refine zab ?_;simp only[rnA];obtain⟨T16,hT16⟩:=mkT fun a:(Int×(List Int))=>⟨43,[(1,(.ptr 0 0)),(3,(.sl 1 0 1 a.2.length none a.2.length)),(4,(dI a.1))],[.cells [(dI p0.grain),(fzE false zaa p0.nodes)],.grow 1 (a.2.map ((eI .u64).c true))]⟩
  refine EvL.zdJ (zbx.ghost (n:=1) (k:=3) (by decide) rfl) ?_;refine EvL.rounds (α:=(Int×(List Int))) T16 (fun n a=>zbu p0 n a.1 a.2=some o9) ((p0.nodes.length:Int) - 0+2:Int).toNat (0,[]) (by rw[hT16]; exact wm0 [.k,.k] ⟨MB.cs ⟨qdc,qdc,qdc⟩,⟨MB.gs (eI .u64) true [],qdc⟩⟩) j9 (fun _ h=>nomatch (show(none:Option (List Int))=some o9 from h)) ?_;rintro n ⟨v4,l1⟩ j9;simp only[zbu]at j9;rw[congrFun hT16 (v4,l1)];refine zab ?_;try simp only[rnA,Nat.reduceEqDiff,Nat.reduceLT,zam]
  cases c1:(decide (v4<(p0.nodes.length:Int)))
  ·rw[c1,cond_false]at j9;try simp only[rnA]
   replace j9:=qac j9; subst j9;exact lfj hT9 rfl (wm0 [.d,.k] ⟨rfl,⟨MB.gs (eI .u64) true l1,qdc⟩⟩)
  rw[c1,cond_true]at j9;try simp only[rnA,Nat.reduceLT]
  obtain⟨o17,j17,j9⟩:=bind_some j9;obtain⟨T17,hT17⟩:=mkT fun a:Int=>⟨43,[(1,(.ptr 0 0)),(3,(.sl 1 0 1 l1.length none l1.length)),(4,(dI v4)),(5,(dU a))],[.cells [(dI p0.grain),(fzE false zaa p0.nodes)],.grow 1 (l1.map ((eI .u64).c true))]⟩
  refine EvL.jn T17 (fun a=>a=o17) ?_ ?_
  ·refine zab ?_;simp only[rnA];obtain⟨T18,hT18⟩:=mkT fun a:(Int×Int)=>⟨43,[(1,(.ptr 0 0)),(3,(.sl 1 0 1 l1.length none l1.length)),(4,(dI v4)),(5,(dU a.1)),(6,(dI a.2))],[.cells [(dI p0.grain),(fzE false zaa p0.nodes)],.grow 1 (l1.map ((eI .u64).c true))]⟩
   refine EvL.rounds (α:=(Int×Int)) T18 (fun n a=>zbw p0 v4 n a.1 a.2=some o17) ((((zaP p0.nodes v4).getD default).parents.length:Int) - 0+2:Int).toNat (0,0) (by rw[hT18]; exact wm0 [.k,.k] ⟨MB.cs ⟨qdc,qdc,qdc⟩,⟨MB.gs (eI .u64) true l1,qdc⟩⟩) j17 (fun _ h=>nomatch (show(none:Option Int)=some o17 from h)) ?_;rintro n ⟨v5,v6⟩ j17;simp only[zbw]at j17;rw[congrFun hT18 (v5,v6)];refine zab ?_;obtain⟨x2,g3,j17⟩:=bind_some j17;try simp only[rnA,Nat.reduceEqDiff,Nat.reduceLT,Nat.reduceAdd,Nat.reduceLeDiff,zad,zak (n:=3) (e:=zaa) rfl g3,zam]
   cases c4:(decide (v6<(x2.parents.length:Int)))
   ·rw[c4,cond_false]at j17;try simp only[rnA,Nat.reduceEqDiff,Nat.reduceLT,reduceCtorEq]
    replace j17:=qac j17; subst j17;exact lfj hT17 rfl (wm0 [.k,.k] ⟨MB.cs ⟨qdc,qdc,qdc⟩,⟨MB.gs (eI .u64) true l1,qdc⟩⟩)
   rw[c4,cond_true]at j17;obtain⟨x5,g6,j17⟩:=bind_some j17;obtain⟨q7,g8,j17⟩:=bind_some j17;try simp only[rnA,Nat.reduceEqDiff,Nat.reduceLT,Nat.reduceAdd,Nat.reduceLeDiff,zad,zak (n:=3) (e:=zaa) rfl g3,zak (n:=1) (e:=(eI .i64)) rfl g6,(zd8 g8).1,(zd8 g8).2]
   exact⟨((orI .u64 v5 q7),(w64 (v6+1))),j17,by rw[hT18]; exact wm0 [.k,.k] ⟨MB.cs ⟨qdc,qdc,qdc⟩,⟨MB.gs (eI .u64) true l1,qdc⟩⟩⟩
  rintro v5 rfl;rw[congrFun hT17 v5];refine zab ?_;obtain⟨y11,g12,j9⟩:=bind_some j9;try simp only[rnA,Nat.reduceEqDiff,Nat.reduceLT,Nat.reduceAdd,Nat.reduceLeDiff,zbP g12,(show l1.length+1=y11.length from zbf g12),(show l1.map ((eI .u64).c true)++ [[(dU v5)]]=y11.map ((eI .u64).c true)from zbG g12 ((eI .u64).c true))]
  exact⟨((w64 (v4+1)),y11),j9,by rw[hT16]; exact wm0 [.k,.k] ⟨MB.cs ⟨qdc,qdc,qdc⟩,⟨MB.gs (eI .u64) true y11,qdc⟩⟩⟩
 rintro l1 rfl;rw[congrFun hT9 l1];refine zab ?_;try simp only[rnA,Nat.reduceEqDiff,Nat.reduceLT]
 replace h:=qac h; subst h;exact zbO.ret rfl (zal (e:=(eI .u64)) (t:=true) rfl (.inr rfl) rfl rfl (fun k h=>nomatch h) (fun _=>rfl))
def zaQ(y7:(List Int))(p0:S_net_network)(r3:(Int×Bool)):Nat→Int→Int→(List Int)→Option (Int×(List Int))
 | 0,_,_,_=>none
 | n+1,v40,b6_0,l7=>(
bif (decide (v40<((y7.length:Nat):Int)))then(
(zaP y7 v40).bind fun x10=>
(zaP p0.cards x10).bind fun x12=>
(zcW 8 l7 [x12]).bind fun y14=>
((bif (decide (r3.1<v40))then(
some (w64 (b6_0 * x12)))
else(
some b6_0):Option Int)).bind fun b6_0'=>
zaQ y7 p0 r3 n (w64 (v40+1)) b6_0' y14)
else(
some (b6_0,l7)))
def zaS(y23:(Int×(List Int)))(b6_0:Int)(x1:S_api_Node):Nat→Int→(List Int)→Option (List Int)
 | 0,_,_=>none
 | n+1,v80,l8'=>(
bif (decide (v80<(y23.2.length:Int)))then(
(zaP y23.2 v80).bind fun x25=>
(zsp .i64 y23.1 b6_0).bind fun q27=>
(zoO y23.1 b6_0).bind fun q29=>
(zaP l8' (w64 ((w64 ((w64 ((w64 (q27 * x1.card))+v80))* b6_0))+q29))).bind fun x31=>
(zfP l8' (w64 ((w64 ((w64 ((w64 (q27 * x1.card))+v80))* b6_0))+q29)) x25).bind fun y33=>
zaS y23 b6_0 x1 n (w64 (v80+1)) y33)
else(
some l8'))
def zaR(b6_0:Int)(x1:S_api_Node):List (Int×(List Int))→(List Int)→Option (List Int)
 | [],l8=>some l8
 | y23 :: ys,l8=>(
((zaS y23 b6_0 x1 ((y23.2.length:Int) - 0+2:Int).toNat 0 l8:Option (List Int))).bind fun l8'=>
zaR b6_0 x1 ys l8')
def zbm(p0:S_net_network)(p1:Int):Option S_api_Factor:=
(zaP p0.net.nodes p1).bind fun x1=>
(zaK x1.parents p1).bind fun r3=>
(zeL 8 x1.parents).bind fun y5=>
(zvx 8 y5 r3.1 [p1]).bind fun y7=>
((zaQ y7 p0 r3 (((y7.length:Nat):Int) - 0+2:Int).toNat 0 1 []:Option ((Int×(List Int))))).bind fun o=>match o with
|(b6_0,l7)=>(
(zfB 8 (w64 ((x1.rows.length:Int)* x1.card)) 0).bind fun y17=>
(zdI x1).bind fun r19=>
(ze0 r19.rows).bind fun u21=>
((zaR b6_0 x1 (znT r19.rows) y17:Option (List Int))).bind fun l8=>
some (S_api_Factor.mk y7 l7 l8))
def zdF:C:=
 .seq (rg [oW 2 0,
 ⟨some 4,.alloc [(.slice none 0 0),(.slice none 0 0),(.slice none 0 0)],none⟩])
 (.seq (rg [oF 16 0 2,
 oF 17 1 16,
 oL 18 17,
 oM 19 1,
 oI 20 3 18 19,
 oN 21 3 20,
 ⟨some 5,.alloc [(.int .i64 0),(.slice none 0 0),(.slice none 0 0)],none⟩,
 oS 3 5 21])
 (.seq (rg [oF 23 1 5,
 oL 24 23,
 oM 25 1,
 oV 26 125 24 25,
 oM 22 26,
 oX 27 22 0,
 oX 28 22 1,
 oM 6 27,
 oM 7 28])
 (.seq (rg [oF 29 1 5,
 oL 30 29,
 oU 31 49 30,
 oM 32 6,
 oM 33 1,
 ⟨some 34,.bsl 1 1 [(.int .i64 0)] [(0,(.s 33))],none⟩,
 ⟨some 35,.call 126 [(.s 31),(.s 32),(.s 34)],none⟩,
 ⟨some 36,.build [(.slice none 0 0),(.slice none 0 0),(.slice none 0 0)] [(0,1,(.s 35))],none⟩,
 ⟨some 8,.alloc [(.slice none 0 0),(.slice none 0 0),(.slice none 0 0)],none⟩,
 oS 3 8 36])
 (.seq (rg [⟨some 9,.alloc [(.int .i64 0)],none⟩,
 ⟨none,.store 1 (.s 9) (.c (.int .i64 1)),none⟩])
 (.seq (.seq (rg [oF 37 0 8,
 oL 38 37,
 oE 39 38,
 oK 40 0])
 (.scope (.block 0 (.loop (.seq (rg [oB 41 .lss 40 39])
 (.seq (.cond (.s 41) (.skip)
 (.exit 0))
 (.seq (.block 1 (.seq (rg [oM 42 40,
 oI 43 1 38 40,
 oL 44 43,
 oM 10 42,
 oM 11 44])
 (.seq (.reg true false [oF 45 1 8,
 oL 46 45,
 oF 47 2 2,
 oL 48 47,
 oM 49 11,
 oI 50 1 48 49,
 oL 51 50,
 ⟨some 52,.bsl 1 1 [(.int .i64 0)] [(0,(.s 51))],none⟩,
 oT 53 1 8 46 52,
 oF 54 1 8,
 oS 1 54 53])
 (.seq (rg [oM 55 10,
 oM 56 6,
 oB 57 .gtr 55 56])
 (.scope (.cond (.s 57) (.reg true false [oL 58 9,
 oF 59 2 2,
 oL 60 59,
 oM 61 11,
 oI 62 1 60 61,
 oL 63 62,
 oB 64 .mul 58 63,
 oS 1 9 64])
 (.skip)))))))
 (rg [oD 65 .add 40 1,
 oM 40 65]))))))))
 (.seq (rg [oF 66 2 5,
 oL 67 66,
 oE 68 67,
 oF 69 0 5,
 oL 70 69,
 oB 71 .mul 68 70,
 ⟨some 72,.mk 1 8 [(.int .i64 0)] (.s 71) (.s 71),none⟩,
 oF 73 2 8,
 oS 1 73 72])
 (.seq (.seq (rg [oN 74 3 5,
 oU 75 127 74])
 (.block 2 (.zex (.s 75) [76,77] (.seq (rg [oM 12 76])
 (rg [oM 13 77]))
 (.block 3 (.seq (rg [oM 78 13,
 oE 79 78,
 oK 80 0])
 (.block 4 (.loop (.seq (rg [oB 81 .lss 80 79])
 (.seq (.cond (.s 81) (.skip)
 (.exit 4))
 (.seq (.block 5 (.seq (rg [oM 82 80,
 oI 83 1 78 80,
 oL 84 83,
 oM 14 82,
 oM 15 84])
 (.reg true false [oF 85 2 8,
 oL 86 85,
 oM 87 12,
 oL 88 9,
 oB 89 .quo 87 88,
 oF 90 0 5,
 oL 91 90,
 oB 92 .mul 89 91,
 oM 93 14,
 oB 94 .add 92 93,
 oL 95 9,
 oB 96 .mul 94 95,
 oM 97 12,
 oL 98 9,
 oB 99 .rem 97 98,
 oB 100 .add 96 99,
 oM 101 15,
 oI 102 1 86 100,
 oS 1 102 101])))
 (rg [oD 103 .add 80 1,
 oM 80 103])))))))))))
 (.seq (rg [oN 104 3 8,
 oS 3 4 104])
 (.ret)))))))))
theorem zeU:zkn mC 78=some (105,zdF,[.cell 4 (some 3)],false):=zb5 (by kernel_rfl)
theorem ze4{p0:S_net_network}{p1:Int}{r:S_api_Factor}(h:zbm p0 p1=some r):Lx.Fn mC 78 [(.agg [(dI p0.net.grain),(fzE false zaa p0.net.nodes),(fzE false (eI .i64) p0.cards),(fzE false (eI .u64) p0.sets),(fzE false (eI .i64) p0.order)]),(dI p1)] (.agg [(fzE true (eI .i64) r.vars),(fzE true (eI .i64) r.cards),(fzE true (eI .i64) r.w)]):=by
 refine Fn.of zeU (zbF rfl) (qaf rfl) ?_;unfold zbm at h;simp only[zdF,ze3];refine zab ?_;obtain⟨x1,g2,h⟩:=bind_some h;obtain⟨r3,g4,h⟩:=bind_some h;try simp only[rnA,Nat.reduceEqDiff,Nat.reduceLT,Nat.reduceAdd,Nat.reduceLeDiff,reduceCtorEq,zad,zak (n:=3) (e:=zaa) rfl g2]
 refine EvL.fn (zdA g4) rfl rfl (.cons (zat _ _ (fun h=>nomatch h)) (.cons (.lit _) .nil)) ?_;obtain⟨y5,g6,h⟩:=bind_some h;try simp only[rnA,Nat.reduceEqDiff,Nat.reduceLT,reduceCtorEq]
 refine EvL.clone (t:=false) (zs:=x1.parents) g6 rfl rfl ?_;obtain⟨y7,g8,h⟩:=bind_some h;try simp only[rnA,Nat.reduceEqDiff,Nat.reduceLT,Nat.reduceAdd,reduceCtorEq]
 refine EvL.insert (zs:=y5) (t:=true) (us:=[p1]) (t2:=true) g8 rfl rfl rfl rfl rfl rfl rfl rfl rfl ?_;try simp only[rnA,Nat.reduceEqDiff,Nat.reduceLT,Nat.reduceAdd,Nat.reduceLeDiff,reduceCtorEq]
 obtain⟨o5,j5,h⟩:=bind_some h;obtain⟨T5,hT5⟩:=mkT fun a:(Int×(List Int))=>⟨105,[(4,(.ptr 1 0)),(5,(.ptr 2 0)),(8,(.ptr 5 0)),(9,(.ptr 6 0))],[.gone,.cells [zbs,zbs,zbs],.cells [(dI x1.card),(fzE false (eI .i64) x1.parents),(fzE false (eL (eI .i64)) x1.rows)],.els 1 (y7.map ((eI .i64).c true)),.gone,.cells [(.sl 3 0 1 y7.length none y7.length),(.sl 7 0 1 a.2.length none a.2.length),zbs],.cells [(dI a.1)],.grow 1 (a.2.map ((eI .i64).c true))]⟩
 refine EvL.jn T5 (fun a=>a=o5) ?_ ?_
 ·refine zab ?_;simp only[rnA];obtain⟨T9,hT9⟩:=mkT fun a:(Int×Int×(List Int))=>⟨105,[(2,(.ptr 0 0)),(4,(.ptr 1 0)),(5,(.ptr 2 0)),(6,(dI r3.1)),(8,(.ptr 5 0)),(9,(.ptr 6 0)),(38,(.sl 3 0 1 y7.length none y7.length)),(39,(dI ((y7.length:Nat):Int))),(40,(dI a.1))],[.cells [(dI p0.net.grain),(fzE false zaa p0.net.nodes),(fzE false (eI .i64) p0.cards),(fzE false (eI .u64) p0.sets),(fzE false (eI .i64) p0.order)],.cells [zbs,zbs,zbs],.cells [(dI x1.card),(fzE false (eI .i64) x1.parents),(fzE false (eL (eI .i64)) x1.rows)],.els 1 (y7.map ((eI .i64).c true)),.gone,.cells [(.sl 3 0 1 y7.length none y7.length),(.sl 7 0 1 a.2.2.length none a.2.2.length),zbs],.cells [(dI a.2.1)],.grow 1 (a.2.2.map ((eI .i64).c true))]⟩
  refine EvL.zdJ (zbx.zeX (n:=1) (β:=5) (o:=1) (by decide) rfl rfl) ?_;refine EvL.rounds (α:=(Int×Int×(List Int))) T9 (fun n a=>zaQ y7 p0 r3 n a.1 a.2.1 a.2.2=some o5) (((y7.length:Nat):Int) - 0+2:Int).toNat (0,1,[]) (by rw[hT9]; exact wm0 [.k,.k,.k,.k,.d,.k,.k,.k] ⟨MB.cs ⟨qdc,qdc,qdc,qdc,qdc,qdc⟩,⟨MB.cs ⟨qdc,qdc,qdc,qdc⟩,⟨MB.cs ⟨qdc,qdc,qdc,qdc⟩,⟨MB.es (eI .i64) true y7,⟨rfl,⟨MB.cs ⟨rfl,rfl,qdc,qdc⟩,⟨MB.cs ⟨qdc,qdc⟩,⟨MB.gs (eI .i64) true [],qdc⟩⟩⟩⟩⟩⟩⟩⟩) j5 (fun _ h=>nomatch (show(none:Option (Int×(List Int)))=some o5 from h)) ?_;rintro n ⟨v40,b6_0,l7⟩ j5;simp only[zaQ]at j5;rw[congrFun hT9 (v40,b6_0,l7)];refine zab ?_;try simp only[rnA,Nat.reduceEqDiff,Nat.reduceLT]
  cases c9:(decide (v40<((y7.length:Nat):Int)))
  ·rw[c9,cond_false]at j5;try simp only[rnA]
   replace j5:=qac j5; subst j5;exact lfj hT5 rfl (wm0 [.d,.k,.k,.k,.d,.k,.k,.k] ⟨rfl,⟨MB.cs ⟨qdc,qdc,qdc,qdc⟩,⟨MB.cs ⟨qdc,qdc,qdc,qdc⟩,⟨MB.es (eI .i64) true y7,⟨rfl,⟨MB.cs ⟨rfl,rfl,qdc,qdc⟩,⟨MB.cs ⟨qdc,qdc⟩,⟨MB.gs (eI .i64) true l7,qdc⟩⟩⟩⟩⟩⟩⟩⟩)
  rw[c9,cond_true]at j5;obtain⟨x10,g11,j5⟩:=bind_some j5;obtain⟨x12,g13,j5⟩:=bind_some j5;obtain⟨y14,g15,j5⟩:=bind_some j5;try simp only[rnA,Nat.reduceEqDiff,Nat.reduceLT,Nat.reduceAdd,Nat.reduceLeDiff,zbk g11,(show v40<((y7.length:Nat):Int)from zbD g11),zaZ g11 ((eI .i64).c true),zak (n:=1) (e:=(eI .i64)) rfl g13,zbP g15,(show l7.length+1=y14.length from zbf g15),(show l7.map ((eI .i64).c true)++ [[(dI x12)]]=y14.map ((eI .i64).c true)from zbG g15 ((eI .i64).c true))]
  obtain⟨o10,j10,j5⟩:=bind_some j5;obtain⟨T10,hT10⟩:=mkT fun a:Int=>⟨105,[(2,(.ptr 0 0)),(4,(.ptr 1 0)),(5,(.ptr 2 0)),(6,(dI r3.1)),(8,(.ptr 5 0)),(9,(.ptr 6 0)),(38,(.sl 3 0 1 y7.length none y7.length)),(39,(dI ((y7.length:Nat):Int))),(40,(dI v40))],[.cells [(dI p0.net.grain),(fzE false zaa p0.net.nodes),(fzE false (eI .i64) p0.cards),(fzE false (eI .u64) p0.sets),(fzE false (eI .i64) p0.order)],.cells [zbs,zbs,zbs],.cells [(dI x1.card),(fzE false (eI .i64) x1.parents),(fzE false (eL (eI .i64)) x1.rows)],.els 1 (y7.map ((eI .i64).c true)),.gone,.cells [(.sl 3 0 1 y7.length none y7.length),(.sl 7 0 1 y14.length none y14.length),zbs],.cells [(dI a)],.grow 1 (y14.map ((eI .i64).c true))]⟩
  refine EvL.jn T10 (fun a=>a=o10) ?_ ?_
  ·refine zab ?_;try simp only[rnA,Nat.reduceEqDiff]
   cases c16:(decide (r3.1<v40))
   ·rw[c16,cond_false]at j10;try simp only[rnA]
    replace j10:=qac j10; subst j10;exact lfj hT10 rfl (wm0 [.k,.k,.k,.k,.d,.k,.k,.k] ⟨MB.cs ⟨qdc,qdc,qdc,qdc,qdc,qdc⟩,⟨MB.cs ⟨qdc,qdc,qdc,qdc⟩,⟨MB.cs ⟨qdc,qdc,qdc,qdc⟩,⟨MB.es (eI .i64) true y7,⟨rfl,⟨MB.cs ⟨rfl,rfl,qdc,qdc⟩,⟨MB.cs ⟨qdc,qdc⟩,⟨MB.gs (eI .i64) true y14,qdc⟩⟩⟩⟩⟩⟩⟩⟩)
   rw[c16,cond_true]at j10;try simp only[rnA,Nat.reduceEqDiff,Nat.reduceLT,Nat.reduceLeDiff,zak (n:=1) (e:=(eI .i64)) rfl g13]
   replace j10:=qac j10; subst j10;exact lfj hT10 rfl (wm0 [.k,.k,.k,.k,.d,.k,.k,.k] ⟨MB.cs ⟨qdc,qdc,qdc,qdc,qdc,qdc⟩,⟨MB.cs ⟨qdc,qdc,qdc,qdc⟩,⟨MB.cs ⟨qdc,qdc,qdc,qdc⟩,⟨MB.es (eI .i64) true y7,⟨rfl,⟨MB.cs ⟨rfl,rfl,qdc,qdc⟩,⟨MB.cs ⟨qdc,qdc⟩,⟨MB.gs (eI .i64) true y14,qdc⟩⟩⟩⟩⟩⟩⟩⟩)
  rintro b6_0' rfl;rw[congrFun hT10 b6_0'];refine zab ?_;try simp only[rnA,Nat.reduceEqDiff,Nat.reduceLT]
  exact⟨((w64 (v40+1)),b6_0',y14),j5,by rw[hT9]; exact wm0 [.k,.k,.k,.k,.d,.k,.k,.k] ⟨MB.cs ⟨qdc,qdc,qdc,qdc,qdc,qdc⟩,⟨MB.cs ⟨qdc,qdc,qdc,qdc⟩,⟨MB.cs ⟨qdc,qdc,qdc,qdc⟩,⟨MB.es (eI .i64) true y7,⟨rfl,⟨MB.cs ⟨rfl,rfl,qdc,qdc⟩,⟨MB.cs ⟨qdc,qdc⟩,⟨MB.gs (eI .i64) true y14,qdc⟩⟩⟩⟩⟩⟩⟩⟩⟩
 rintro⟨b6_0,l7⟩ rfl;dsimp only at h;rw[congrFun hT5 (b6_0,l7)];refine zab ?_;obtain⟨y17,g18,h⟩:=bind_some h;obtain⟨r19,g20,h⟩:=bind_some h;try simp only[rnA,Nat.reduceEqDiff,Nat.reduceLT,Nat.reduceAdd,Nat.reduceLeDiff,zam,(za8 g18).1.1,(za8 g18).1.2,qce,(show List.replicate (Int.toNat (w64 ((x1.rows.length:Int)* x1.card))) [(dI 0)]=y17.map ((eI .i64).c true)from zdy g18 ((eI .i64).c true))]
 refine EvL.fnS (zhJ g20) rfl rfl (.cons (Mzs.agg (.cons (.lit _) (.cons (zen _ _ (fun h=>by cases h<;>contradiction)) (.cons (zen _ _ (fun h=>by cases h<;>contradiction)) .nil)))) .nil) ⟨⟨qdc,(zcu _ _),(zcu _ _),qdc⟩,qdc⟩ ⟨qdc,⟨⟨rfl,zaa.fr _⟩,qdc⟩⟩ ?_;try simp only[rnA,Nat.reduceLT,zad]
 obtain⟨u21,g22,h⟩:=bind_some h;obtain⟨o15,j15,h⟩:=bind_some h;obtain⟨T15,hT15⟩:∃ T:(List Int)→List LB,T=(fun a=>[.gone,.cells [zbs,zbs,zbs],.cells [(dI x1.card),(fzE false (eI .i64) x1.parents),(fzE false (eL (eI .i64)) x1.rows)],.els 1 (y7.map ((eI .i64).c true)),.gone,.cells [(.sl 3 0 1 y7.length none y7.length),(.sl 7 0 1 l7.length none l7.length),(.sl 8 0 1 (Int.toNat (w64 ((x1.rows.length:Int)* x1.card))) (some (Int.toNat (w64 ((x1.rows.length:Int)* x1.card)))) (Int.toNat (w64 ((x1.rows.length:Int)* x1.card))))],.cells [(dI b6_0)],.grow 1 (l7.map ((eI .i64).c true)),.els 1 (a.map ((eI .i64).c true))]):=⟨_,rfl⟩;refine EvL.zdJ (S':=⟨105,[(4,(.ptr 1 0)),(5,(.ptr 2 0)),(8,(.ptr 5 0)),(9,(.ptr 6 0)),(75,(.clo 156 [] [(.fptr false (zaa.c false r19))]))],T15 y17⟩) (by rw[hT15]; exact wm0 [.k,.k,.k,.k,.k,.k,.k,.k,.k] ⟨MB.same trivial,⟨MB.cs ⟨qdc,qdc,qdc,qdc⟩,⟨MB.cs ⟨qdc,qdc,qdc,qdc⟩,⟨MB.es (eI .i64) true y7,⟨MB.same trivial,⟨MB.cs ⟨rfl,rfl,rfl,qdc⟩,⟨MB.cs ⟨qdc,qdc⟩,⟨MB.gs (eI .i64) true l7,⟨MB.es (eI .i64) true y17,qdc⟩⟩⟩⟩⟩⟩⟩⟩⟩) ?_;refine EvL.zgE (n0:=9) (zgX r19 g22) rfl (bm:=.block 3 (.seq (.reg false false [⟨some 78,.mov (.s 13),none⟩,⟨some 79,.len (.s 78),none⟩,⟨some 80,.mov (.c (.int .i64 0)),none⟩]) (.scope (.block 4 (.loop (.seq (.reg false false [⟨some 81,.bin .lss (.s 80) (.s 79),none⟩]) (.seq (.cond (.s 81) (.skip) (.exit 4)) (.seq (.block 5 (.seq (.reg false false [⟨some 82,.mov (.s 80),none⟩,⟨some 83,.idxS 1 (.s 78) (.s 80),none⟩,⟨some 84,.load none (.s 83),none⟩,⟨some 14,.mov (.s 82),none⟩,⟨some 15,.mov (.s 84),none⟩]) (.reg true false [⟨some 85,.fld 2 (.s 8),none⟩,⟨some 86,.load none (.s 85),none⟩,⟨some 87,.mov (.s 12),none⟩,⟨some 88,.load none (.s 9),none⟩,⟨some 89,.bin .quo (.s 87) (.s 88),none⟩,⟨some 90,.fld 0 (.s 5),none⟩,⟨some 91,.load none (.s 90),none⟩,⟨some 92,.bin .mul (.s 89) (.s 91),none⟩,⟨some 93,.mov (.s 14),none⟩,⟨some 94,.bin .add (.s 92) (.s 93),none⟩,⟨some 95,.load none (.s 9),none⟩,⟨some 96,.bin .mul (.s 94) (.s 95),none⟩,⟨some 97,.mov (.s 12),none⟩,⟨some 98,.load none (.s 9),none⟩,⟨some 99,.bin .rem (.s 97) (.s 98),none⟩,⟨some 100,.bin .add (.s 96) (.s 99),none⟩,⟨some 101,.mov (.s 15),none⟩,⟨some 102,.idxS 1 (.s 86) (.s 100),none⟩,⟨none,.store 1 (.s 102) (.s 101),none⟩]))) (.reg false false [⟨some 103,.bin .add (.s 80) (.c (.int .i64 1)),none⟩,⟨some 80,.mov (.s 103),none⟩]))))))))) rfl T15 (fun i a=>zaR b6_0 x1 ((znT r19.rows).drop i) a=some o15∧a.length=(Int.toNat (w64 ((x1.rows.length:Int)* x1.card)))) (fun x L1=>match x with | .normal=>∃ a,o15=a∧a.length=(Int.toNat (w64 ((x1.rows.length:Int)* x1.card)))∧L1=T15 a | .ret=>L1.length=9∧zfW (9+1) L1∧(zbO [.cell 4 (some 3)] ((.agg [(fzE true (eI .i64) r.vars),(fzE true (eI .i64) r.cards),(fzE true (eI .i64) r.w)]))) .ret ⟨105,[(4,(.ptr 1 0)),(5,(.ptr 2 0)),(8,(.ptr 5 0)),(9,(.ptr 6 0)),(75,(.clo 156 [] [(.fptr false (zaa.c false r19))]))],L1 ++ [.lost]⟩| _=>False) y17 ?_ (qay _) ?_ ?_ ?_ (fun d L1 hx=>hx.elim) ?_ ?_ ?_ ?_ ?_ ?_
 ·intro a; rw[hT15]; rfl
 ·exact⟨(qaf rfl),(qaf rfl),(qaf rfl),(qaf rfl),⟨qdc,⟨qdc,qdc⟩⟩,qdc⟩
 ·intro a; rw[hT15]; exact⟨qdc,⟨qdc,qdc,qdc,qdc⟩,⟨qdc,qdc,qdc,qdc⟩,(ziK (eI .i64) _ _ _),qdc,⟨(qaf rfl),(qaf rfl),(qaf rfl),qdc⟩,⟨qdc,qdc⟩,(ziK (eI .i64) _ _ _),(ziK (eI .i64) _ _ _),qdc⟩
 ·intro x L1 hx;cases x with
  | normal=>obtain⟨a,_,_,rfl⟩:=hx; exact⟨by rw[hT15]; rfl,by rw[hT15]; exact⟨qdc,⟨qdc,qdc,qdc,qdc⟩,⟨qdc,qdc,qdc,qdc⟩,(ziK (eI .i64) _ _ _),qdc,⟨(qaf rfl),(qaf rfl),(qaf rfl),qdc⟩,⟨qdc,qdc⟩,(ziK (eI .i64) _ _ _),(ziK (eI .i64) _ _ _),qdc⟩⟩
  | ret=>exact⟨hx.1,hx.2.1⟩
  | exit id=>exact hx.elim
  | panic d=>exact hx.elim
 ·exact⟨j15,zcl g18⟩
 ·rintro i l8 y23 args G lpF hy ⟨hi15,el8⟩ ⟨rfl,rfl⟩ hkin;rw[zod hy]at hi15;simp only[zaR]at hi15;refine⟨_,_,rfl,rfl,?_⟩;rw[congrFun hT15 l8];refine zab ?_;try simp only[rnA,Nat.reduceEqDiff,Nat.reduceLT,Nat.reduceAdd,zad,zam]
  obtain⟨o16,j16,hi15⟩:=bind_some hi15;obtain⟨T16,hT16⟩:=mkT fun a:(List Int)=>⟨105,[],[.gone,.cells [zbs,zbs,zbs],.cells [(dI x1.card),(fzE false (eI .i64) x1.parents),(fzE false (eL (eI .i64)) x1.rows)],.els 1 (y7.map ((eI .i64).c true)),.gone,.cells [(.sl 3 0 1 y7.length none y7.length),(.sl 7 0 1 l7.length none l7.length),(.sl 8 0 1 (Int.toNat (w64 ((x1.rows.length:Int)* x1.card))) (some (Int.toNat (w64 ((x1.rows.length:Int)* x1.card)))) (Int.toNat (w64 ((x1.rows.length:Int)* x1.card))))],.cells [(dI b6_0)],.grow 1 (l7.map ((eI .i64).c true)),.els 1 (a.map ((eI .i64).c true)),lpF]⟩
  refine EvL.jn T16 (fun a=>a=o16∧a.length=(Int.toNat (w64 ((x1.rows.length:Int)* x1.card)))) ?_ ?_
  ·refine zab ?_;simp only[rnA];obtain⟨T17,hT17⟩:=mkT fun a:(Int×(List Int))=>⟨105,[(5,(.ptr 2 0)),(8,(.ptr 5 0)),(9,(.ptr 6 0)),(12,(dI y23.1)),(78,(fzE false (eI .i64) y23.2)),(79,(dI (y23.2.length:Int))),(80,(dI a.1))],[.gone,.cells [zbs,zbs,zbs],.cells [(dI x1.card),(fzE false (eI .i64) x1.parents),(fzE false (eL (eI .i64)) x1.rows)],.els 1 (y7.map ((eI .i64).c true)),.gone,.cells [(.sl 3 0 1 y7.length none y7.length),(.sl 7 0 1 l7.length none l7.length),(.sl 8 0 1 (Int.toNat (w64 ((x1.rows.length:Int)* x1.card))) (some (Int.toNat (w64 ((x1.rows.length:Int)* x1.card)))) (Int.toNat (w64 ((x1.rows.length:Int)* x1.card))))],.cells [(dI b6_0)],.grow 1 (l7.map ((eI .i64).c true)),.els 1 (a.2.map ((eI .i64).c true)),lpF]⟩
   refine EvL.rounds (α:=(Int×(List Int))) T17 (fun n a=>zaS y23 b6_0 x1 n a.1 a.2=some o16∧a.2.length=(Int.toNat (w64 ((x1.rows.length:Int)* x1.card)))) ((y23.2.length:Int) - 0+2:Int).toNat (0,l8) (by rw[hT17]; exact zbx.mK (k0:=10) [.k,.k,.k,.k,.k,.k,.k,.k,.k,.k] rfl rfl (msq (msq (msq (msq (msq (msq (msq trivial))))))) ⟨MB.same trivial,⟨MB.cs ⟨qdc,qdc,qdc,qdc⟩,⟨MB.cs ⟨qdc,qdc,qdc,qdc⟩,⟨MB.es (eI .i64) true y7,⟨MB.same trivial,⟨MB.cs ⟨rfl,rfl,rfl,qdc⟩,⟨MB.cs ⟨qdc,qdc⟩,⟨MB.gs (eI .i64) true l7,⟨MB.es (eI .i64) true l8,⟨.same (hkin _ (by decide)),qdc⟩⟩⟩⟩⟩⟩⟩⟩⟩⟩) ⟨j16,el8⟩ (fun _ h=>nomatch (show(none:Option (List Int))=some o16 from h.1)) ?_;rintro n ⟨v80,l8'⟩ ⟨j16,el8'⟩;simp only[zaS]at j16;rw[congrFun hT17 (v80,l8')];refine zab ?_;try simp only[rnA,Nat.reduceEqDiff,Nat.reduceLT]
   cases c24:(decide (v80<(y23.2.length:Int)))
   ·rw[c24,cond_false]at j16;try simp only[rnA,Nat.reduceEqDiff]
    replace j16:=qac j16; subst j16;exact⟨_,⟨rfl,el8'⟩,by rw[hT16]; exact zbx.mK (k0:=10) [.k,.k,.k,.k,.k,.k,.k,.k,.k,.k] rfl rfl qdc ⟨MB.same trivial,⟨MB.cs ⟨qdc,qdc,qdc,qdc⟩,⟨MB.cs ⟨qdc,qdc,qdc,qdc⟩,⟨MB.es (eI .i64) true y7,⟨MB.same trivial,⟨MB.cs ⟨rfl,rfl,rfl,qdc⟩,⟨MB.cs ⟨qdc,qdc⟩,⟨MB.gs (eI .i64) true l7,⟨MB.es (eI .i64) true l8',⟨.same (hkin _ (by decide)),qdc⟩⟩⟩⟩⟩⟩⟩⟩⟩⟩⟩
   rw[c24,cond_true]at j16;obtain⟨x25,g26,j16⟩:=bind_some j16;obtain⟨q27,g28,j16⟩:=bind_some j16;obtain⟨q29,g30,j16⟩:=bind_some j16;obtain⟨x31,g32,j16⟩:=bind_some j16;obtain⟨y33,g34,j16⟩:=bind_some j16;try simp only[rnA,Nat.reduceEqDiff,Nat.reduceLT,Nat.reduceLeDiff,zak (n:=1) (e:=(eI .i64)) rfl g26,zm0 g28,zpZ g28,zmh g30,el8',zbk g32,(show(w64 ((w64 ((w64 ((w64 (q27 * x1.card))+v80))* b6_0))+q29))<(((Int.toNat (w64 ((x1.rows.length:Int)* x1.card))):Nat):Int)from el8' ▸ zbD g32),zaZ g32 ((eI .i64).c true),(show(l8'.map ((eI .i64).c true)).set (w64 ((w64 ((w64 ((w64 (q27 * x1.card))+v80))* b6_0))+q29)).toNat [(dI x25)]=y33.map ((eI .i64).c true)from zb1 g34 ((eI .i64).c true))]
   exact⟨((w64 (v80+1)),y33),⟨j16,(zbd g34).trans el8'⟩,by rw[hT17]; exact zbx.mK (k0:=10) [.k,.k,.k,.k,.k,.k,.k,.k,.k,.k] rfl rfl (msq (msq (msq (msq (msq (msq (msq trivial))))))) ⟨MB.same trivial,⟨MB.cs ⟨qdc,qdc,qdc,qdc⟩,⟨MB.cs ⟨qdc,qdc,qdc,qdc⟩,⟨MB.es (eI .i64) true y7,⟨MB.same trivial,⟨MB.cs ⟨rfl,rfl,rfl,qdc⟩,⟨MB.cs ⟨qdc,qdc⟩,⟨MB.gs (eI .i64) true l7,⟨MB.es (eI .i64) true y33,⟨.same (hkin _ (by decide)),qdc⟩⟩⟩⟩⟩⟩⟩⟩⟩⟩⟩
  rintro l8' ⟨rfl,el8'⟩;rw[congrFun hT16 l8'];refine zab ?_;try simp only[rnA]
  exact⟨T15 l8',by rw[hT15]; rfl,by rw[hT15]; exact zbx.mK [.k,.k,.k,.k,.k,.k,.k,.k,.k,.k] rfl rfl qdc ⟨MB.same trivial,⟨MB.cs ⟨qdc,qdc,qdc,qdc⟩,⟨MB.cs ⟨qdc,qdc,qdc,qdc⟩,⟨MB.es (eI .i64) true y7,⟨MB.same trivial,⟨MB.cs ⟨rfl,rfl,rfl,qdc⟩,⟨MB.cs ⟨qdc,qdc⟩,⟨MB.gs (eI .i64) true l7,⟨MB.es (eI .i64) true l8',⟨.same (hkin _ (by decide)),qdc⟩⟩⟩⟩⟩⟩⟩⟩⟩⟩,l8',⟨hi15,el8'⟩,rfl⟩
 ·rintro l8 ⟨hi15,el8⟩;rw[qcL]at hi15;simp only[zaR]at hi15;exact⟨l8,(qac hi15).symm,el8,rfl⟩
 ·rintro _ ⟨l8,oeq,el8,rfl⟩;have oeq2:=oeq.symm;subst oeq2;rw[congrFun hT15 l8];refine zab ?_;try simp only[rnA,Nat.reduceEqDiff,Nat.reduceLT,Nat.reduceAdd,Nat.reduceLeDiff,zad]
  replace h:=qac h; subst h;exact zbO.ret rfl (.zc5 (.cons (zal (e:=(eI .i64)) (t:=true) rfl (.inl rfl) rfl rfl (fun k h=>nomatch h) (fun _=>rfl)) (.cons (zal (e:=(eI .i64)) (t:=true) rfl (.inr rfl) rfl rfl (fun k h=>nomatch h) (fun _=>rfl)) (.cons (zal (e:=(eI .i64)) (t:=true) rfl (.inl rfl) (el8).symm (el8).symm (fun k h=>by cases h; exact qaj _) (fun _=>rfl)) .nil))))
 ·intro id L1 hx; exact hx.elim
 intro L1 hx; exact hx.2.2
def zb8(r1:(S_net_network×Int)):Nat→Int→(List S_api_Factor)→Option (List S_api_Factor)
 | 0,_,_=>none
 | n+1,v23,l2=>(
bif (decide (v23<(((Int.toNat (r1.1.net.nodes.length:Int)):Nat):Int)))then(
(zbm r1.1 v23).bind fun r7=>
(zaP l2 v23).bind fun x9=>
(zfP l2 v23 r7).bind fun y11=>
zb8 r1 n (w64 (v23+1)) y11)
else(
some l2))
def zb2(p0:S_api_Net):Option ((List S_api_Factor)×Int):=
(zdl p0).bind fun r1=>
bif (r1.2 == 0)then(
(zfB 72 (r1.1.net.nodes.length:Int) (S_api_Factor.mk [] [] [])).bind fun y4=>
((zb8 r1 ((((Int.toNat (r1.1.net.nodes.length:Int)):Nat):Int) - 0+2:Int).toNat 0 y4:Option (List S_api_Factor))).bind fun l2=>
some (l2,0))
else(
some ([],r1.2))
theorem zir{p0:S_api_Net}{r:((List S_api_Factor)×Int)}(h:zb2 p0=some r):Lx.Fn mC 16 [(.agg [(dI p0.grain),(fzE false zaa p0.nodes)])] (.tup [(fzE true zae r.1),(dI r.2)]):=by
 refine fnO (by conv=>lhs; cbv) ?_;unfold zb2 at h;refine zab ?_;obtain⟨r1,g2,h⟩:=bind_some h;try simp only[rnA,Nat.reduceEqDiff,Nat.reduceLT,Nat.reduceAdd,Nat.reduceLeDiff,reduceCtorEq]
 refine EvL.fnS (zmI g2) rfl rfl (.cons (Mzs.agg (.cons (.lit _) (.cons (zen _ _ (fun h=>by cases h<;>contradiction)) .nil))) .nil) ⟨⟨qdc,(zcu _ _),qdc⟩,qdc⟩ ⟨⟨qdc,(zcu _ _),(zcu _ _),(zcu _ _),(zcu _ _),qdc⟩,qdc,qdc⟩ ?_;try simp only[rnA,Nat.reduceEqDiff,Nat.reduceLT,Nat.reduceAdd,Nat.reduceLeDiff,reduceCtorEq]
 cases c3:(r1.2 == 0)
 ·rw[c3,cond_false]at h;try simp only[rnA,Nat.reduceEqDiff,Nat.reduceLT,reduceCtorEq]
  replace h:=qac h; subst h;exact zbO.ret rfl (Snp.zos (.cons (zaV zae) (.cons (.lit _) .nil)))
 rw[c3,cond_true]at h;obtain⟨y4,g5,h⟩:=bind_some h;try simp only[rnA,Nat.reduceEqDiff,Nat.reduceLT,Nat.reduceAdd,reduceCtorEq,zam,(za8 g5).1.1,(za8 g5).1.2,qce,qcz]
 obtain⟨o1,j1,h⟩:=bind_some h;obtain⟨T1,hT1⟩:=mkT fun a:(List S_api_Factor)=>⟨34,[(6,(.sl 2 0 3 (Int.toNat (r1.1.net.nodes.length:Int)) (some (Int.toNat (r1.1.net.nodes.length:Int))) (Int.toNat (r1.1.net.nodes.length:Int))))],[.gone,.gone,.els 3 (a.map (zae.c true))]⟩
 refine EvL.jn T1 (fun a=>a=o1∧a.length=(Int.toNat (r1.1.net.nodes.length:Int))) ?_ ?_
 ·refine zab ?_;simp only[rnA];obtain⟨T2,hT2⟩:=mkT fun a:(Int×(List S_api_Factor))=>⟨34,[(4,(.ptr 1 0)),(6,(.sl 2 0 3 (Int.toNat (r1.1.net.nodes.length:Int)) (some (Int.toNat (r1.1.net.nodes.length:Int))) (Int.toNat (r1.1.net.nodes.length:Int)))),(22,(dI (((Int.toNat (r1.1.net.nodes.length:Int)):Nat):Int))),(23,(dI a.1))],[.gone,.cells [(dI r1.1.net.grain),(fzE false zaa r1.1.net.nodes),(fzE false (eI .i64) r1.1.cards),(fzE false (eI .u64) r1.1.sets),(fzE false (eI .i64) r1.1.order)],.els 3 (a.2.map (zae.c true))]⟩
  refine EvL.rounds (α:=(Int×(List S_api_Factor))) T2 (fun n a=>zb8 r1 n a.1 a.2=some o1∧a.2.length=(Int.toNat (r1.1.net.nodes.length:Int))) ((((Int.toNat (r1.1.net.nodes.length:Int)):Nat):Int) - 0+2:Int).toNat (0,y4) (by rw[hT2]; exact wm0 [.d,.k,.k] ⟨rfl,⟨MB.cs ⟨qdc,qdc,qdc,qdc,qdc,qdc⟩,⟨MB.zy9 (zuZ (e:=zae) (t:=true) g5 (.cons (.fr (zkN (eI .i64))) (.cons (.fr (zkN (eI .i64))) (.cons (.fr (zkN (eI .i64))) .nil)))),qdc⟩⟩⟩) ⟨j1,zcl g5⟩ (fun _ h=>nomatch (show(none:Option (List S_api_Factor))=some o1 from h.1)) ?_;rintro n ⟨v23,l2⟩ ⟨j1,el2⟩;simp only[zb8]at j1;rw[congrFun hT2 (v23,l2)];refine zab ?_;try simp only[rnA,Nat.reduceEqDiff,Nat.reduceLT]
  cases c6:(decide (v23<(((Int.toNat (r1.1.net.nodes.length:Int)):Nat):Int)))
  ·rw[c6,cond_false]at j1;try simp only[rnA]
   replace j1:=qac j1; subst j1;exact⟨_,⟨rfl,el2⟩,by rw[hT1]; exact wm0 [.d,.d,.k] ⟨rfl,⟨rfl,⟨MB.es zae true l2,qdc⟩⟩⟩⟩
  rw[c6,cond_true]at j1;obtain⟨r7,g8,j1⟩:=bind_some j1;try simp only[rnA,Nat.reduceEqDiff,Nat.reduceLT,Nat.reduceAdd,Nat.reduceLeDiff]
  refine EvL.fn (ze4 g8) rfl rfl (.cons (.zc5 (.cons (.lit _) (.cons (zat _ _ (fun h=>nomatch h)) (.cons (zat _ _ (fun h=>nomatch h)) (.cons (zat _ _ (fun h=>nomatch h)) (.cons (zat _ _ (fun h=>nomatch h)) .nil)))))) (.cons (.lit _) .nil)) ?_;obtain⟨x9,g10,j1⟩:=bind_some j1;obtain⟨y11,g12,j1⟩:=bind_some j1;try simp only[rnA,Nat.reduceEqDiff,Nat.reduceLT,Nat.reduceAdd,Nat.reduceLeDiff,zfk,el2,zbk g10,(show v23<(((Int.toNat (r1.1.net.nodes.length:Int)):Nat):Int)from el2 ▸ zbD g10),zaZ g10 (zae.c true),(show(l2.map (zae.c true)).set v23.toNat [(fzE true (eI .i64) r7.vars),(fzE true (eI .i64) r7.cards),(fzE true (eI .i64) r7.w)]=y11.map (zae.c true)from zb1 g12 (zae.c true))]
  exact⟨((w64 (v23+1)),y11),⟨j1,(zbd g12).trans el2⟩,by rw[hT2]; exact wm0 [.d,.k,.k] ⟨rfl,⟨MB.cs ⟨qdc,qdc,qdc,qdc,qdc,qdc⟩,⟨MB.es zae true y11,qdc⟩⟩⟩⟩
 rintro l2 ⟨rfl,el2⟩;rw[congrFun hT1 l2];refine zab ?_;try simp only[rnA,Nat.reduceEqDiff,Nat.reduceLT]
 replace h:=qac h; subst h;exact zbO.ret rfl (Snp.zos (.cons (zal (e:=zae) (t:=true) rfl (.inl rfl) (el2).symm (el2).symm (fun k h=>by cases h; exact qaj _) (fun _=>rfl)) (.cons (.lit _) .nil)))
end Go.Dc
