/-
 What net_read computes. Conditions: none.
-/
import Derived.Test.YtbjogdohfhdaiaaGreatESJ6
set_option linter.unusedSimpArgs false
set_option linter.unusedVariables false
set_option maxRecDepth 100000
set_option maxHeartbeats 4000000
namespace Go.Dc
open Go Go.Mx Go.Lx Go.Proofs
def zcp(p0:S_api_Net):Nat→Int→Int→(List Int)→Option (Out (Int×(List Int)) (S_net_network×Int))
 | 0,_,_,_=>none
 | n+1,v5,v50,l2=>(
bif (decide (v50<(p0.nodes.length:Int)))then(
(za3 p0.nodes v50).bind fun x8=>
((bif (decide (x8.zaD<1))then(
some true)
else(
some (decide (4<x8.zaD))):Option Bool)).bind fun v62=>
bif v62 then(
some (.ret ((S_net_network.mk (S_api_Net.mk 0 []) [] [] []),50)))
else(
(za3 l2 v50).bind fun x12=>
(zfo l2 v50 x8.zaD).bind fun y14=>
zcp p0 n (w64 (v5 * x8.zaD)) (w64 (v50+1)) y14))
else(
some (.go (v5,l2))))
def zcZ(x18:S_api_Node)(p0:S_api_Net)(v82:Int):Nat→Int→Int→(List Int)→Option (Out (List Int) (S_net_network×Int))
 | 0,_,_,_=>none
 | n+1,v10,v90,l3'=>(
bif (decide (v90<(x18.parents.length:Int)))then(
(za3 x18.parents v90).bind fun x21=>
((bif (decide (x21≤v10))then(
some true)
else(
bif (decide ((p0.nodes.length:Int)≤x21))then(
some true)
else(
some (x21 == v82))):Option Bool)).bind fun v109=>
bif v109 then(
some (.ret ((S_net_network.mk (S_api_Net.mk 0 []) [] [] []),50)))
else(
(za3 l3' v82).bind fun x26=>
(zmB .u64 1 x21).bind fun q28=>
(zfo l3' v82 (orI .u64 x26 q28)).bind fun y30=>
zcZ x18 p0 v82 n x21 (w64 (v90+1)) y30))
else(
some (.go l3')))
def zco(p0:S_api_Net)(l2:(List Int)):Nat→Int→(List Int)→Option (Out (List Int) (S_net_network×Int))
 | 0,_,_=>none
 | n+1,v82,l3=>(
bif (decide (v82<(p0.nodes.length:Int)))then(
(za3 p0.nodes v82).bind fun x18=>
((zcZ x18 p0 v82 ((x18.parents.length:Int) - 0+2:Int).toNat (-1) 0 l3:Option (Out (List Int) (S_net_network×Int)))).bind fun o=>match o with
| .go l3'=>(
(zbj (S_net_network.mk p0 l2 l3' []) x18).bind fun r32=>
bif r32 then(
zco p0 l2 n (w64 (v82+1)) l3')
else(
some (.ret ((S_net_network.mk (S_api_Net.mk 0 []) [] [] []),50))))
| .ret r=>some (.ret r))
else(
some (.go l3)))
def zdy(p0:S_api_Net):Option (S_net_network×Int):=
((bif (decide (p0.grain<1))then(
some true)
else(
bif (decide (60<p0.grain))then(
some true)
else(
bif (decide ((p0.nodes.length:Int)<1))then(
some true)
else(
some (decide (8<(p0.nodes.length:Int)))))):Option Bool)).bind fun v34=>
bif v34 then(
some ((S_net_network.mk (S_api_Net.mk 0 []) [] [] []),50))
else(
(zen 8 (p0.nodes.length:Int) 0).bind fun y5=>
((zcp p0 ((p0.nodes.length:Int) - 0+2:Int).toNat 1 0 y5:Option (Out (Int×(List Int)) (S_net_network×Int)))).bind fun o=>match o with
| .go (v5,l2)=>(
bif (decide (1024<v5))then(
some ((S_net_network.mk (S_api_Net.mk 0 []) [] [] []),50))
else(
((zco p0 l2 ((p0.nodes.length:Int) - 0+2:Int).toNat 0 y5:Option (Out (List Int) (S_net_network×Int)))).bind fun o=>match o with
| .go l3=>(
(zdh l3).bind fun r35=>
bif r35.2 then(
some ((S_net_network.mk p0 l2 l3 r35.1),0))
else(
some ((S_net_network.mk (S_api_Net.mk 0 []) [] [] []),50)))
| .ret r=>some r))
| .ret r=>some r)
def zjl:C:=
 .seq (rg [oW 1 0,
 ⟨some 2,.alloc [(.int .i64 0),(.slice none 0 0),(.slice none 0 0),(.slice none 0 0),(.slice none 0 0)],none⟩,
 oK 3 0])
 (.seq (.seq (.scope (rg [oF 15 0 1,
 oL 16 15,
 oD 17 .lss 16 1,
 oM 18 17,
 oFg 19 0 1 18 false,
 oLg 20 19 18 false,
 oDg 21 .gtr 20 60 18 false,
 oP 22 18 21,
 oM 23 22,
 oFg 24 1 1 23 false,
 oLg 25 24 23 false,
 ⟨some 26,.len (.s 25),some (23,false)⟩,
 oDg 27 .lss 26 1 23 false,
 oP 28 23 27,
 oM 29 28,
 oFg 30 1 1 29 false,
 oLg 31 30 29 false,
 ⟨some 32,.len (.s 31),some (29,false)⟩,
 oDg 33 .gtr 32 8 29 false,
 oP 34 29 33]))
 (.cond (.s 34) (.seq (rg [⟨some 35,.build [(.int .i64 0),(.slice none 0 0),(.slice none 0 0),(.slice none 0 0),(.slice none 0 0)] [],none⟩,
 oS 5 2 35,
 oK 3 50])
 (.ret))
 (.skip)))
 (.seq (.reg true false [oN 36 2 1,
 oF 37 1 1,
 oL 38 37,
 oE 39 38,
 oF 41 1 1,
 oL 42 41,
 oE 43 42,
 ⟨some 40,.mk 1 8 [(.int .i64 0)] (.s 39) (.s 39),none⟩,
 ⟨some 44,.mk 1 8 [(.int .u64 0)] (.s 43) (.s 43),none⟩,
 ⟨some 45,.build [(.int .i64 0),(.slice none 0 0),(.slice none 0 0),(.slice none 0 0),(.slice none 0 0)] [(0,2,(.s 36)),(2,1,(.s 40)),(3,1,(.s 44))],none⟩,
 ⟨some 4,.alloc [(.int .i64 0),(.slice none 0 0),(.slice none 0 0),(.slice none 0 0),(.slice none 0 0)],none⟩,
 oS 5 4 45])
 (.seq (rg [oK 5 1])
 (.seq (.seq (rg [oF 46 0 4,
 oF 47 1 46,
 oL 48 47,
 oE 49 48,
 oK 50 0])
 (.scope (.block 0 (.loop (.seq (rg [oB 51 .lss 50 49])
 (.seq (.cond (.s 51) (.skip)
 (.exit 0))
 (.seq (.block 1 (.seq (rg [oM 52 50,
 oI 53 3 48 50,
 oN 54 3 53,
 ⟨some 7,.alloc [(.int .i64 0),(.slice none 0 0),(.slice none 0 0)],none⟩,
 oM 6 52,
 oS 3 7 54])
 (.seq (.seq (.scope (rg [oF 55 0 7,
 oL 56 55,
 oD 57 .lss 56 1,
 oM 58 57,
 oFg 59 0 7 58 false,
 oLg 60 59 58 false,
 oDg 61 .gtr 60 4 58 false,
 oP 62 58 61]))
 (.cond (.s 62) (.seq (rg [⟨some 63,.build [(.int .i64 0),(.slice none 0 0),(.slice none 0 0),(.slice none 0 0),(.slice none 0 0)] [],none⟩,
 oS 5 2 63,
 oK 3 50])
 (.ret))
 (.skip)))
 (.seq (rg [oF 64 2 4,
 oL 65 64,
 oM 66 6,
 oF 67 0 7,
 oL 68 67,
 oI 69 1 65 66,
 oS 1 69 68])
 (rg [oM 70 5,
 oF 71 0 7,
 oL 72 71,
 oB 73 .mul 70 72,
 oM 5 73])))))
 (rg [oD 74 .add 50 1,
 oM 50 74]))))))))
 (.seq (.seq (rg [oM 75 5,
 oD 76 .gtr 75 1024])
 (.cond (.s 76) (.seq (rg [⟨some 77,.build [(.int .i64 0),(.slice none 0 0),(.slice none 0 0),(.slice none 0 0),(.slice none 0 0)] [],none⟩,
 oS 5 2 77,
 oK 3 50])
 (.ret))
 (.skip)))
 (.seq (.seq (rg [oF 78 0 4,
 oF 79 1 78,
 oL 80 79,
 oE 81 80,
 oK 82 0])
 (.scope (.block 2 (.loop (.seq (rg [oB 83 .lss 82 81])
 (.seq (.cond (.s 83) (.skip)
 (.exit 2))
 (.seq (.block 3 (.seq (rg [oM 84 82,
 oI 85 3 80 82,
 oN 86 3 85,
 ⟨some 9,.alloc [(.int .i64 0),(.slice none 0 0),(.slice none 0 0)],none⟩,
 oM 8 84,
 oS 3 9 86])
 (.seq (rg [⟨some 10,.mov (.c (.int .i64 (-1))),none⟩])
 (.seq (.seq (rg [oF 87 1 9,
 oL 88 87,
 oE 89 88,
 oK 90 0])
 (.scope (.block 4 (.loop (.seq (rg [oB 91 .lss 90 89])
 (.seq (.cond (.s 91) (.skip)
 (.exit 4))
 (.seq (.block 5 (.seq (rg [oI 92 1 88 90,
 oL 93 92,
 oM 12 93])
 (.seq (.seq (.scope (rg [oM 94 12,
 oM 95 10,
 oB 96 .leq 94 95,
 oM 97 96,
 oMg 98 12 97 false,
 oFg 99 0 4 97 false,
 oFg 100 1 99 97 false,
 oLg 101 100 97 false,
 ⟨some 102,.len (.s 101),some (97,false)⟩,
 ⟨some 103,.bin .geq (.s 98) (.s 102),some (97,false)⟩,
 oP 104 97 103,
 oM 105 104,
 oMg 106 12 105 false,
 oMg 107 8 105 false,
 ⟨some 108,.bin .eql (.s 106) (.s 107),some (105,false)⟩,
 oP 109 105 108]))
 (.cond (.s 109) (.seq (rg [⟨some 110,.build [(.int .i64 0),(.slice none 0 0),(.slice none 0 0),(.slice none 0 0),(.slice none 0 0)] [],none⟩,
 oS 5 2 110,
 oK 3 50])
 (.ret))
 (.skip)))
 (.seq (rg [oM 111 12,
 oM 10 111])
 (.reg true false [oF 112 3 4,
 oL 113 112,
 oM 114 8,
 oI 115 1 113 114,
 oL 116 115,
 oM 117 12,
 ⟨some 118,.bin .shl (.c (.int .u64 1)) (.s 117),none⟩,
 oB 119 .or 116 118,
 oI 120 1 113 114,
 oS 1 120 119])))))
 (rg [oD 121 .add 90 1,
 oM 90 121]))))))))
 (.seq (rg [oN 122 5 4,
 oN 123 3 9,
 oV 124 87 122 123,
 ⟨some 125,.un .not (.s 124),none⟩])
 (.cond (.s 125) (.seq (rg [⟨some 126,.build [(.int .i64 0),(.slice none 0 0),(.slice none 0 0),(.slice none 0 0),(.slice none 0 0)] [],none⟩,
 oS 5 2 126,
 oK 3 50])
 (.ret))
 (.skip)))))))
 (rg [oD 127 .add 82 1,
 oM 82 127]))))))))
 (.seq (rg [oF 129 3 4,
 oL 130 129,
 oU 131 88 130,
 oM 128 131,
 oX 132 128 0,
 oX 133 128 1,
 oM 13 132,
 oM 14 133])
 (.seq (.seq (rg [oM 134 14,
 ⟨some 135,.un .not (.s 134),none⟩])
 (.cond (.s 135) (.seq (rg [⟨some 136,.build [(.int .i64 0),(.slice none 0 0),(.slice none 0 0),(.slice none 0 0),(.slice none 0 0)] [],none⟩,
 oS 5 2 136,
 oK 3 50])
 (.ret))
 (.skip)))
 (.seq (rg [oM 137 13,
 oF 138 4 4,
 oS 1 138 137])
 (.seq (rg [oN 139 5 4,
 oS 5 2 139,
 oK 3 0])
 (.ret)))))))))))
theorem zlK:zl2 mC 59=some (140,zjl,[.cell 2 (some 5),.tmp 3],false):=zcP (by kernel_rfl)
theorem ziQ{p0:S_api_Net}{r:(S_net_network×Int)}(h:zdy p0=some r):Lx.FnA mC 59 [(.agg [(dI p0.grain),(fzE false zab p0.nodes)])] (.tup [(.agg [(dI r.1.net.grain),(fzE false zab r.1.net.nodes),(fzE false (eI .i64) r.1.zay),(fzE false (eI .u64) r.1.sets),(fzE false (eI .i64) r.1.order)]),(dI r.2)]):=by
 refine FnA.of zlK (zcj rfl) (qai rfl) ?_;unfold zdy at h;simp only[zjl,zss];refine zaa ?_;try simp only[rnA,Nat.reduceLT]
 obtain⟨o1,j1,h⟩:=bind_some h;obtain⟨T1,hT1⟩:=mkT fun a:Bool=>⟨140,[(1,(.ptr 0 0)),(2,(.ptr 1 0)),(34,(dB a))],[.cells [(dI p0.grain),(fzE false zab p0.nodes)],.cells [(dI 0),zcE,zcE,zcE,zcE]]⟩
 refine EvL.jn T1 (fun a=>a=o1) ?_ ?_
 ·refine zaa ?_;try simp only[rnA,Nat.reduceEqDiff,Nat.reduceLT,reduceCtorEq]
  cases c1:(decide (p0.grain<1))
  ·rw[c1,cond_false]at j1;try simp only[rnA,Nat.reduceEqDiff,Nat.reduceLT,reduceCtorEq]
   cases c2:(decide (60<p0.grain))
   ·rw[c2,cond_false]at j1;try simp only[rnA,Nat.reduceEqDiff,Nat.reduceLT,reduceCtorEq,zaC]
    cases c3:(decide ((p0.nodes.length:Int)<1))
    ·rw[c3,cond_false]at j1;try simp only[rnA,Nat.reduceEqDiff,Nat.reduceLT,reduceCtorEq,zaC]
     replace j1:=qae j1; subst j1;exact lfj hT1 rfl (wm0 [.k,.k] ⟨MB.cs ⟨qdn,qdn,qdn⟩,⟨MB.cs ⟨qdn,qdn,qdn,qdn,qdn,qdn⟩,qdn⟩⟩)
    rw[c3,cond_true]at j1;try simp only[rnA,Nat.reduceEqDiff,Nat.reduceLT,reduceCtorEq]
    replace j1:=qae j1; subst j1;exact lfj hT1 rfl (wm0 [.k,.k] ⟨MB.cs ⟨qdn,qdn,qdn⟩,⟨MB.cs ⟨qdn,qdn,qdn,qdn,qdn,qdn⟩,qdn⟩⟩)
   rw[c2,cond_true]at j1;try simp only[rnA,Nat.reduceEqDiff,Nat.reduceLT,reduceCtorEq]
   replace j1:=qae j1; subst j1;exact lfj hT1 rfl (wm0 [.k,.k] ⟨MB.cs ⟨qdn,qdn,qdn⟩,⟨MB.cs ⟨qdn,qdn,qdn,qdn,qdn,qdn⟩,qdn⟩⟩)
  rw[c1,cond_true]at j1;try simp only[rnA,Nat.reduceEqDiff,Nat.reduceLT,reduceCtorEq]
  replace j1:=qae j1; subst j1;exact lfj hT1 rfl (wm0 [.k,.k] ⟨MB.cs ⟨qdn,qdn,qdn⟩,⟨MB.cs ⟨qdn,qdn,qdn,qdn,qdn,qdn⟩,qdn⟩⟩)
 rintro v34 rfl;rw[congrFun hT1 v34];refine zaa ?_;try simp only[rnA,Nat.reduceEqDiff]
 cases c4:v34
 ·rw[c4,cond_false]at h;obtain⟨y5,g6,h⟩:=bind_some h;try simp only[rnA,Nat.reduceEqDiff,Nat.reduceLT,Nat.reduceAdd,Nat.reduceLeDiff,zaC,(zbX g6).1.1,(zbX g6).1.2,qdi,(show List.replicate (Int.toNat (p0.nodes.length:Int)) [(dI 0)]=y5.map ((eI .i64).c true)from zec g6 ((eI .i64).c true)),(show List.replicate (Int.toNat (p0.nodes.length:Int)) [(dU 0)]=y5.map ((eI .u64).c true)from zec g6 ((eI .u64).c true))]
  obtain⟨o5,j5,h⟩:=bind_some h;obtain⟨T5,hT5⟩:=mkT fun a:(Int×(List Int))=>⟨140,[(2,(.ptr 1 0)),(4,(.ptr 4 0)),(5,(dI a.1))],[.gone,.cells [(dI 0),zcE,zcE,zcE,zcE],.els 1 (a.2.map ((eI .i64).c true)),.els 1 (y5.map ((eI .u64).c true)),.cells [(dI p0.grain),(fzE false zab p0.nodes),(.sl 2 0 1 (Int.toNat (p0.nodes.length:Int)) (some (Int.toNat (p0.nodes.length:Int))) (Int.toNat (p0.nodes.length:Int))),(.sl 3 0 1 (Int.toNat (p0.nodes.length:Int)) (some (Int.toNat (p0.nodes.length:Int))) (Int.toNat (p0.nodes.length:Int))),zcE]]⟩
  refine EvL.jn T5 (fun a=>o5=.go a∧a.2.length=(Int.toNat (p0.nodes.length:Int))) ?_ ?_
  ·refine zaa ?_;simp only[rnA];obtain⟨T8,hT8⟩:=mkT fun a:(Int×Int×(List Int))=>⟨140,[(2,(.ptr 1 0)),(4,(.ptr 4 0)),(5,(dI a.1)),(48,(fzE false zab p0.nodes)),(49,(dI (p0.nodes.length:Int))),(50,(dI a.2.1))],[.gone,.cells [(dI 0),zcE,zcE,zcE,zcE],.els 1 (a.2.2.map ((eI .i64).c true)),.els 1 (y5.map ((eI .u64).c true)),.cells [(dI p0.grain),(fzE false zab p0.nodes),(.sl 2 0 1 (Int.toNat (p0.nodes.length:Int)) (some (Int.toNat (p0.nodes.length:Int))) (Int.toNat (p0.nodes.length:Int))),(.sl 3 0 1 (Int.toNat (p0.nodes.length:Int)) (some (Int.toNat (p0.nodes.length:Int))) (Int.toNat (p0.nodes.length:Int))),zcE]]⟩
   refine EvL.rounds (α:=(Int×Int×(List Int))) T8 (fun n a=>zcp p0 n a.1 a.2.1 a.2.2=some o5∧a.2.2.length=(Int.toNat (p0.nodes.length:Int))) ((p0.nodes.length:Int) - 0+2:Int).toNat (1,0,y5) (by rw[hT8]; exact wm0 [.d,.k,.k,.k,.k] ⟨rfl,⟨MB.cs ⟨qdn,qdn,qdn,qdn,qdn,qdn⟩,⟨MB.es (eI .i64) true y5,⟨MB.es (eI .u64) true y5,⟨MB.cs ⟨qdn,qdn,rfl,rfl,qdn,qdn⟩,qdn⟩⟩⟩⟩⟩) ⟨j5,zdi g6⟩ (fun _ h=>nomatch (show(none:Option (Out (Int×(List Int)) (S_net_network×Int)))=some o5 from h.1)) ?_;rintro n ⟨v5,v50,l2⟩ ⟨j5,el2⟩;simp only[zcp]at j5;rw[congrFun hT8 (v5,v50,l2)];refine zaa ?_;try simp only[rnA,Nat.reduceEqDiff,Nat.reduceLT]
   cases c7:(decide (v50<(p0.nodes.length:Int)))
   ·rw[c7,cond_false]at j5;try simp only[rnA]
    replace j5:=qae j5; subst j5;exact⟨_,⟨rfl,el2⟩,by rw[hT5]; exact wm0 [.d,.k,.k,.k,.k] ⟨rfl,⟨MB.cs ⟨qdn,qdn,qdn,qdn,qdn,qdn⟩,⟨MB.es (eI .i64) true l2,⟨MB.es (eI .u64) true y5,⟨MB.cs ⟨qdn,qdn,rfl,rfl,qdn,qdn⟩,qdn⟩⟩⟩⟩⟩⟩
   rw[c7,cond_true]at j5;obtain⟨x8,g9,j5⟩:=bind_some j5;try simp only[rnA,Nat.reduceEqDiff,Nat.reduceLT,Nat.reduceAdd,Nat.reduceLeDiff,zak,zaS (n:=3) (e:=zab) rfl g9]
   obtain⟨o9,j9,j5⟩:=bind_some j5;obtain⟨T9,hT9⟩:=mkT fun a:Bool=>⟨140,[(2,(.ptr 1 0)),(4,(.ptr 4 0)),(5,(dI v5)),(6,(dI v50)),(7,(.ptr 5 0)),(48,(fzE false zab p0.nodes)),(49,(dI (p0.nodes.length:Int))),(50,(dI v50)),(62,(dB a))],[.gone,.cells [(dI 0),zcE,zcE,zcE,zcE],.els 1 (l2.map ((eI .i64).c true)),.els 1 (y5.map ((eI .u64).c true)),.cells [(dI p0.grain),(fzE false zab p0.nodes),(.sl 2 0 1 (Int.toNat (p0.nodes.length:Int)) (some (Int.toNat (p0.nodes.length:Int))) (Int.toNat (p0.nodes.length:Int))),(.sl 3 0 1 (Int.toNat (p0.nodes.length:Int)) (some (Int.toNat (p0.nodes.length:Int))) (Int.toNat (p0.nodes.length:Int))),zcE],.cells [(dI x8.zaD),(fzE false (eI .i64) x8.parents),(fzE false (eL (eI .i64)) x8.rows)]]⟩
   refine EvL.jn T9 (fun a=>a=o9) ?_ ?_
   ·refine zaa ?_;try simp only[rnA,Nat.reduceEqDiff,Nat.reduceLT]
    cases c10:(decide (x8.zaD<1))
    ·rw[c10,cond_false]at j9;try simp only[rnA,Nat.reduceEqDiff,Nat.reduceLT]
     replace j9:=qae j9; subst j9;exact lfj hT9 rfl (wm0 [.d,.k,.k,.k,.k,.k] ⟨rfl,⟨MB.cs ⟨qdn,qdn,qdn,qdn,qdn,qdn⟩,⟨MB.es (eI .i64) true l2,⟨MB.es (eI .u64) true y5,⟨MB.cs ⟨qdn,qdn,rfl,rfl,qdn,qdn⟩,⟨MB.cs ⟨qdn,qdn,qdn,qdn⟩,qdn⟩⟩⟩⟩⟩⟩)
    rw[c10,cond_true]at j9;try simp only[rnA,Nat.reduceEqDiff,Nat.reduceLT]
    replace j9:=qae j9; subst j9;exact lfj hT9 rfl (wm0 [.d,.k,.k,.k,.k,.k] ⟨rfl,⟨MB.cs ⟨qdn,qdn,qdn,qdn,qdn,qdn⟩,⟨MB.es (eI .i64) true l2,⟨MB.es (eI .u64) true y5,⟨MB.cs ⟨qdn,qdn,rfl,rfl,qdn,qdn⟩,⟨MB.cs ⟨qdn,qdn,qdn,qdn⟩,qdn⟩⟩⟩⟩⟩⟩)
   rintro v62 rfl;rw[congrFun hT9 v62];refine zaa ?_;try simp only[rnA,Nat.reduceEqDiff]
   cases c11:v62
   ·rw[c11,cond_false]at j5;obtain⟨x12,g13,j5⟩:=bind_some j5;obtain⟨y14,g15,j5⟩:=bind_some j5;try simp only[rnA,Nat.reduceEqDiff,Nat.reduceLT,Nat.reduceLeDiff,el2,zcd g13,(show v50<(((Int.toNat (p0.nodes.length:Int)):Nat):Int)from el2 ▸ zcm g13),zby g13 ((eI .i64).c true),(show(l2.map ((eI .i64).c true)).set v50.toNat [(dI x8.zaD)]=y14.map ((eI .i64).c true)from zdb g15 ((eI .i64).c true))]
    exact⟨((w64 (v5 * x8.zaD)),(w64 (v50+1)),y14),⟨j5,(zcM g15).trans el2⟩,by rw[hT8]; exact wm0 [.d,.k,.k,.k,.k] ⟨rfl,⟨MB.cs ⟨qdn,qdn,qdn,qdn,qdn,qdn⟩,⟨MB.es (eI .i64) true y14,⟨MB.es (eI .u64) true y5,⟨MB.cs ⟨qdn,qdn,rfl,rfl,qdn,qdn⟩,qdn⟩⟩⟩⟩⟩⟩
   rw[c11,cond_true]at j5;try simp only[rnA,Nat.reduceEqDiff,Nat.reduceLT,Nat.reduceAdd,Nat.reduceLeDiff]
   replace j5:=qae j5; subst j5;dsimp only at h;replace h:=qae h; subst h;exact zmU.ret rfl (Snp.zlF (.cons (.zhg (.cons (.lit _) (.cons (za1 zab) (.cons (za1 (eI .i64)) (.cons (za1 (eI .u64)) (.cons (za1 (eI .i64)) .nil)))))) (.cons (.lit _) .nil)))
  rintro⟨v5,l2⟩ ⟨rfl,el2⟩;dsimp only at h;rw[congrFun hT5 (v5,l2)];refine zaa ?_;try simp only[rnA,Nat.reduceEqDiff,Nat.reduceLT]
  cases c16:(decide (1024<v5))
  ·rw[c16,cond_false]at h;try simp only[rnA,Nat.reduceEqDiff,Nat.reduceLT,zaC]
   obtain⟨o34,j34,h⟩:=bind_some h;obtain⟨T34,hT34⟩:=mkT fun a:(List Int)=>⟨140,[(2,(.ptr 1 0)),(4,(.ptr 4 0))],[.gone,.cells [(dI 0),zcE,zcE,zcE,zcE],.els 1 (l2.map ((eI .i64).c true)),.els 1 (a.map ((eI .u64).c true)),.cells [(dI p0.grain),(fzE false zab p0.nodes),(.sl 2 0 1 (Int.toNat (p0.nodes.length:Int)) (some (Int.toNat (p0.nodes.length:Int))) (Int.toNat (p0.nodes.length:Int))),(.sl 3 0 1 (Int.toNat (p0.nodes.length:Int)) (some (Int.toNat (p0.nodes.length:Int))) (Int.toNat (p0.nodes.length:Int))),zcE]]⟩
   refine EvL.jn T34 (fun a=>o34=.go a∧a.length=(Int.toNat (p0.nodes.length:Int))) ?_ ?_
   ·refine zaa ?_;simp only[rnA];obtain⟨T51,hT51⟩:=mkT fun a:(Int×(List Int))=>⟨140,[(2,(.ptr 1 0)),(4,(.ptr 4 0)),(80,(fzE false zab p0.nodes)),(81,(dI (p0.nodes.length:Int))),(82,(dI a.1))],[.gone,.cells [(dI 0),zcE,zcE,zcE,zcE],.els 1 (l2.map ((eI .i64).c true)),.els 1 (a.2.map ((eI .u64).c true)),.cells [(dI p0.grain),(fzE false zab p0.nodes),(.sl 2 0 1 (Int.toNat (p0.nodes.length:Int)) (some (Int.toNat (p0.nodes.length:Int))) (Int.toNat (p0.nodes.length:Int))),(.sl 3 0 1 (Int.toNat (p0.nodes.length:Int)) (some (Int.toNat (p0.nodes.length:Int))) (Int.toNat (p0.nodes.length:Int))),zcE]]⟩
    refine EvL.rounds (α:=(Int×(List Int))) T51 (fun n a=>zco p0 l2 n a.1 a.2=some o34∧a.2.length=(Int.toNat (p0.nodes.length:Int))) ((p0.nodes.length:Int) - 0+2:Int).toNat (0,y5) (by rw[hT51]; exact wm0 [.d,.k,.k,.k,.k] ⟨rfl,⟨MB.cs ⟨qdn,qdn,qdn,qdn,qdn,qdn⟩,⟨MB.es (eI .i64) true l2,⟨MB.es (eI .u64) true y5,⟨MB.cs ⟨qdn,qdn,rfl,rfl,qdn,qdn⟩,qdn⟩⟩⟩⟩⟩) ⟨j34,zdi g6⟩ (fun _ h=>nomatch (show(none:Option (Out (List Int) (S_net_network×Int)))=some o34 from h.1)) ?_;rintro n ⟨v82,l3⟩ ⟨j34,el3⟩;simp only[zco]at j34;rw[congrFun hT51 (v82,l3)];refine zaa ?_;try simp only[rnA,Nat.reduceEqDiff,Nat.reduceLT]
    cases c17:(decide (v82<(p0.nodes.length:Int)))
    ·rw[c17,cond_false]at j34;try simp only[rnA]
     replace j34:=qae j34; subst j34;exact⟨_,⟨rfl,el3⟩,by rw[hT34]; exact wm0 [.d,.k,.k,.k,.k] ⟨rfl,⟨MB.cs ⟨qdn,qdn,qdn,qdn,qdn,qdn⟩,⟨MB.es (eI .i64) true l2,⟨MB.es (eI .u64) true l3,⟨MB.cs ⟨qdn,qdn,rfl,rfl,qdn,qdn⟩,qdn⟩⟩⟩⟩⟩⟩
    rw[c17,cond_true]at j34;obtain⟨x18,g19,j34⟩:=bind_some j34;try simp only[rnA,Nat.reduceEqDiff,Nat.reduceLT,Nat.reduceAdd,Nat.reduceLeDiff,zak,zaS (n:=3) (e:=zab) rfl g19,zaC]
    obtain⟨o55,j55,j34⟩:=bind_some j34;obtain⟨T55,hT55⟩:=mkT fun a:(List Int)=>⟨140,[(2,(.ptr 1 0)),(4,(.ptr 4 0)),(9,(.ptr 5 0)),(80,(fzE false zab p0.nodes)),(81,(dI (p0.nodes.length:Int))),(82,(dI v82))],[.gone,.cells [(dI 0),zcE,zcE,zcE,zcE],.els 1 (l2.map ((eI .i64).c true)),.els 1 (a.map ((eI .u64).c true)),.cells [(dI p0.grain),(fzE false zab p0.nodes),(.sl 2 0 1 (Int.toNat (p0.nodes.length:Int)) (some (Int.toNat (p0.nodes.length:Int))) (Int.toNat (p0.nodes.length:Int))),(.sl 3 0 1 (Int.toNat (p0.nodes.length:Int)) (some (Int.toNat (p0.nodes.length:Int))) (Int.toNat (p0.nodes.length:Int))),zcE],.cells [(dI x18.zaD),(fzE false (eI .i64) x18.parents),(fzE false (eL (eI .i64)) x18.rows)]]⟩
    refine EvL.jn T55 (fun a=>o55=.go a∧a.length=(Int.toNat (p0.nodes.length:Int))) ?_ ?_
    ·refine zaa ?_;simp only[rnA];obtain⟨T58,hT58⟩:=mkT fun a:(Int×Int×(List Int))=>⟨140,[(2,(.ptr 1 0)),(4,(.ptr 4 0)),(8,(dI v82)),(9,(.ptr 5 0)),(10,(dI a.1)),(80,(fzE false zab p0.nodes)),(81,(dI (p0.nodes.length:Int))),(82,(dI v82)),(88,(fzE false (eI .i64) x18.parents)),(89,(dI (x18.parents.length:Int))),(90,(dI a.2.1))],[.gone,.cells [(dI 0),zcE,zcE,zcE,zcE],.els 1 (l2.map ((eI .i64).c true)),.els 1 (a.2.2.map ((eI .u64).c true)),.cells [(dI p0.grain),(fzE false zab p0.nodes),(.sl 2 0 1 (Int.toNat (p0.nodes.length:Int)) (some (Int.toNat (p0.nodes.length:Int))) (Int.toNat (p0.nodes.length:Int))),(.sl 3 0 1 (Int.toNat (p0.nodes.length:Int)) (some (Int.toNat (p0.nodes.length:Int))) (Int.toNat (p0.nodes.length:Int))),zcE],.cells [(dI x18.zaD),(fzE false (eI .i64) x18.parents),(fzE false (eL (eI .i64)) x18.rows)]]⟩
     refine EvL.rounds (α:=(Int×Int×(List Int))) T58 (fun n a=>zcZ x18 p0 v82 n a.1 a.2.1 a.2.2=some o55∧a.2.2.length=(Int.toNat (p0.nodes.length:Int))) ((x18.parents.length:Int) - 0+2:Int).toNat ((-1),0,l3) (by rw[hT58]; exact wm0 [.d,.k,.k,.k,.k,.k] ⟨rfl,⟨MB.cs ⟨qdn,qdn,qdn,qdn,qdn,qdn⟩,⟨MB.es (eI .i64) true l2,⟨MB.es (eI .u64) true l3,⟨MB.cs ⟨qdn,qdn,rfl,rfl,qdn,qdn⟩,⟨MB.cs ⟨qdn,qdn,qdn,qdn⟩,qdn⟩⟩⟩⟩⟩⟩) ⟨j55,el3⟩ (fun _ h=>nomatch (show(none:Option (Out (List Int) (S_net_network×Int)))=some o55 from h.1)) ?_;rintro n ⟨v10,v90,l3'⟩ ⟨j55,el3'⟩;simp only[zcZ]at j55;rw[congrFun hT58 (v10,v90,l3')];refine zaa ?_;try simp only[rnA,Nat.reduceEqDiff,Nat.reduceLT]
     cases c20:(decide (v90<(x18.parents.length:Int)))
     ·rw[c20,cond_false]at j55;try simp only[rnA,Nat.reduceEqDiff,Nat.reduceLT]
      replace j55:=qae j55; subst j55;exact⟨_,⟨rfl,el3'⟩,by rw[hT55]; exact wm0 [.d,.k,.k,.k,.k,.k] ⟨rfl,⟨MB.cs ⟨qdn,qdn,qdn,qdn,qdn,qdn⟩,⟨MB.es (eI .i64) true l2,⟨MB.es (eI .u64) true l3',⟨MB.cs ⟨qdn,qdn,rfl,rfl,qdn,qdn⟩,⟨MB.cs ⟨qdn,qdn,qdn,qdn⟩,qdn⟩⟩⟩⟩⟩⟩⟩
     rw[c20,cond_true]at j55;obtain⟨x21,g22,j55⟩:=bind_some j55;try simp only[rnA,Nat.reduceEqDiff,Nat.reduceLT,zaS (n:=1) (e:=(eI .i64)) rfl g22]
     obtain⟨o59,j59,j55⟩:=bind_some j55;obtain⟨T59,hT59⟩:=mkT fun a:Bool=>⟨140,[(2,(.ptr 1 0)),(4,(.ptr 4 0)),(8,(dI v82)),(9,(.ptr 5 0)),(12,(dI x21)),(80,(fzE false zab p0.nodes)),(81,(dI (p0.nodes.length:Int))),(82,(dI v82)),(88,(fzE false (eI .i64) x18.parents)),(89,(dI (x18.parents.length:Int))),(90,(dI v90)),(109,(dB a))],[.gone,.cells [(dI 0),zcE,zcE,zcE,zcE],.els 1 (l2.map ((eI .i64).c true)),.els 1 (l3'.map ((eI .u64).c true)),.cells [(dI p0.grain),(fzE false zab p0.nodes),(.sl 2 0 1 (Int.toNat (p0.nodes.length:Int)) (some (Int.toNat (p0.nodes.length:Int))) (Int.toNat (p0.nodes.length:Int))),(.sl 3 0 1 (Int.toNat (p0.nodes.length:Int)) (some (Int.toNat (p0.nodes.length:Int))) (Int.toNat (p0.nodes.length:Int))),zcE],.cells [(dI x18.zaD),(fzE false (eI .i64) x18.parents),(fzE false (eL (eI .i64)) x18.rows)]]⟩
     refine EvL.jn T59 (fun a=>a=o59) ?_ ?_
     ·refine zaa ?_;try simp only[rnA,Nat.reduceEqDiff,Nat.reduceLT]
      cases c23:(decide (x21≤v10))
      ·rw[c23,cond_false]at j59;try simp only[rnA,Nat.reduceEqDiff,Nat.reduceLT,zaC]
       cases c24:(decide ((p0.nodes.length:Int)≤x21))
       ·rw[c24,cond_false]at j59;try simp only[rnA,Nat.reduceEqDiff,Nat.reduceLT]
        replace j59:=qae j59; subst j59;exact lfj hT59 rfl (wm0 [.d,.k,.k,.k,.k,.k] ⟨rfl,⟨MB.cs ⟨qdn,qdn,qdn,qdn,qdn,qdn⟩,⟨MB.es (eI .i64) true l2,⟨MB.es (eI .u64) true l3',⟨MB.cs ⟨qdn,qdn,rfl,rfl,qdn,qdn⟩,⟨MB.cs ⟨qdn,qdn,qdn,qdn⟩,qdn⟩⟩⟩⟩⟩⟩)
       rw[c24,cond_true]at j59;try simp only[rnA,Nat.reduceEqDiff,Nat.reduceLT]
       replace j59:=qae j59; subst j59;exact lfj hT59 rfl (wm0 [.d,.k,.k,.k,.k,.k] ⟨rfl,⟨MB.cs ⟨qdn,qdn,qdn,qdn,qdn,qdn⟩,⟨MB.es (eI .i64) true l2,⟨MB.es (eI .u64) true l3',⟨MB.cs ⟨qdn,qdn,rfl,rfl,qdn,qdn⟩,⟨MB.cs ⟨qdn,qdn,qdn,qdn⟩,qdn⟩⟩⟩⟩⟩⟩)
      rw[c23,cond_true]at j59;try simp only[rnA,Nat.reduceEqDiff,Nat.reduceLT]
      replace j59:=qae j59; subst j59;exact lfj hT59 rfl (wm0 [.d,.k,.k,.k,.k,.k] ⟨rfl,⟨MB.cs ⟨qdn,qdn,qdn,qdn,qdn,qdn⟩,⟨MB.es (eI .i64) true l2,⟨MB.es (eI .u64) true l3',⟨MB.cs ⟨qdn,qdn,rfl,rfl,qdn,qdn⟩,⟨MB.cs ⟨qdn,qdn,qdn,qdn⟩,qdn⟩⟩⟩⟩⟩⟩)
     rintro v109 rfl;rw[congrFun hT59 v109];refine zaa ?_;try simp only[rnA,Nat.reduceEqDiff]
     cases c25:v109
     ·rw[c25,cond_false]at j55;obtain⟨x26,g27,j55⟩:=bind_some j55;obtain⟨q28,g29,j55⟩:=bind_some j55;obtain⟨y30,g31,j55⟩:=bind_some j55;try simp only[rnA,Nat.reduceEqDiff,Nat.reduceLT,Nat.reduceLeDiff,el3',zcd g27,(show v82<(((Int.toNat (p0.nodes.length:Int)):Nat):Int)from el3' ▸ zcm g27),zby g27 ((eI .u64).c true),(za6 g29).1,(za6 g29).2,(show(l3'.map ((eI .u64).c true)).set v82.toNat [(dU (orI .u64 x26 q28))]=y30.map ((eI .u64).c true)from zdb g31 ((eI .u64).c true))]
      exact⟨(x21,(w64 (v90+1)),y30),⟨j55,(zcM g31).trans el3'⟩,by rw[hT58]; exact wm0 [.d,.k,.k,.k,.k,.k] ⟨rfl,⟨MB.cs ⟨qdn,qdn,qdn,qdn,qdn,qdn⟩,⟨MB.es (eI .i64) true l2,⟨MB.es (eI .u64) true y30,⟨MB.cs ⟨qdn,qdn,rfl,rfl,qdn,qdn⟩,⟨MB.cs ⟨qdn,qdn,qdn,qdn⟩,qdn⟩⟩⟩⟩⟩⟩⟩
     rw[c25,cond_true]at j55;try simp only[rnA,Nat.reduceEqDiff,Nat.reduceLT,Nat.reduceAdd,Nat.reduceLeDiff]
     replace j55:=qae j55; subst j55;dsimp only at j34;replace j34:=qae j34; subst j34;dsimp only at h;replace h:=qae h; subst h;exact zmU.ret rfl (Snp.zlF (.cons (.zhg (.cons (.lit _) (.cons (za1 zab) (.cons (za1 (eI .i64)) (.cons (za1 (eI .u64)) (.cons (za1 (eI .i64)) .nil)))))) (.cons (.lit _) .nil)))
    rintro l3' ⟨rfl,el3'⟩;dsimp only at j34;rw[congrFun hT55 l3'];refine zaa ?_;obtain⟨r32,g33,j34⟩:=bind_some j34;try simp only[rnA,Nat.reduceEqDiff,Nat.reduceLT,Nat.reduceAdd,Nat.reduceLeDiff]
    refine EvL.fn (zeL g33) rfl rfl (.cons (.zhg (.cons (.lit _) (.cons (zaO _ _ (fun h=>nomatch h)) (.cons (zcn (e:=(eI .i64)) (t:=true) rfl (.inl rfl) (el2).symm (el2).symm (fun k h=>by cases h; exact qan _) (fun h=>nomatch h)) (.cons (zcn (e:=(eI .u64)) (t:=true) rfl (.inl rfl) (el3').symm (el3').symm (fun k h=>by cases h; exact qan _) (fun h=>nomatch h)) (.cons (za1 (eI .i64)) .nil)))))) (.cons (.zhg (.cons (.lit _) (.cons (zaO _ _ (fun h=>nomatch h)) (.cons (zaO _ _ (fun h=>nomatch h)) .nil)))) .nil)) ?_;try simp only[rnA,Nat.reduceEqDiff,Nat.reduceLT]
    cases c34:r32
    ·rw[c34,cond_false]at j34;try simp only[rnA,Nat.reduceEqDiff,Nat.reduceLT,Nat.reduceAdd,Nat.reduceLeDiff]
     replace j34:=qae j34; subst j34;dsimp only at h;replace h:=qae h; subst h;exact zmU.ret rfl (Snp.zlF (.cons (.zhg (.cons (.lit _) (.cons (za1 zab) (.cons (za1 (eI .i64)) (.cons (za1 (eI .u64)) (.cons (za1 (eI .i64)) .nil)))))) (.cons (.lit _) .nil)))
    rw[c34,cond_true]at j34;try simp only[rnA,Nat.reduceEqDiff,Nat.reduceLT]
    exact⟨((w64 (v82+1)),l3'),⟨j34,el3'⟩,by rw[hT51]; exact wm0 [.d,.k,.k,.k,.k] ⟨rfl,⟨MB.cs ⟨qdn,qdn,qdn,qdn,qdn,qdn⟩,⟨MB.es (eI .i64) true l2,⟨MB.es (eI .u64) true l3',⟨MB.cs ⟨qdn,qdn,rfl,rfl,qdn,qdn⟩,qdn⟩⟩⟩⟩⟩⟩
   rintro l3 ⟨rfl,el3⟩;dsimp only at h;rw[congrFun hT34 l3];refine zaa ?_;obtain⟨r35,g36,h⟩:=bind_some h;try simp only[rnA,Nat.reduceEqDiff,Nat.reduceLT]
   refine EvL.fn (zki g36) rfl rfl (.cons (zcn (e:=(eI .u64)) (t:=true) rfl (.inl rfl) (el3).symm (el3).symm (fun k h=>by cases h; exact qan _) (fun h=>nomatch h)) .nil) ?_;try simp only[rnA,Nat.reduceEqDiff,Nat.reduceLT]
   cases c37:r35.2
   ·rw[c37,cond_false]at h;try simp only[rnA,Nat.reduceEqDiff,Nat.reduceLT,Nat.reduceAdd,Nat.reduceLeDiff]
    replace h:=qae h; subst h;exact zmU.ret rfl (Snp.zlF (.cons (.zhg (.cons (.lit _) (.cons (za1 zab) (.cons (za1 (eI .i64)) (.cons (za1 (eI .u64)) (.cons (za1 (eI .i64)) .nil)))))) (.cons (.lit _) .nil)))
   rw[c37,cond_true]at h;try simp only[rnA,Nat.reduceEqDiff,Nat.reduceLT,Nat.reduceAdd,Nat.reduceLeDiff]
   replace h:=qae h; subst h;exact zmU.ret rfl (Snp.zlF (.cons (.zhg (.cons (.lit _) (.cons (zaO _ _ (fun h=>nomatch h)) (.cons (zcn (e:=(eI .i64)) (t:=true) rfl (.inl rfl) (el2).symm (el2).symm (fun k h=>by cases h; exact qan _) (fun h=>nomatch h)) (.cons (zcn (e:=(eI .u64)) (t:=true) rfl (.inl rfl) (el3).symm (el3).symm (fun k h=>by cases h; exact qan _) (fun h=>nomatch h)) (.cons (zaO _ _ (fun h=>nomatch h)) .nil)))))) (.cons (.lit _) .nil)))
  rw[c16,cond_true]at h;try simp only[rnA,Nat.reduceEqDiff,Nat.reduceLT,Nat.reduceAdd,Nat.reduceLeDiff]
  replace h:=qae h; subst h;exact zmU.ret rfl (Snp.zlF (.cons (.zhg (.cons (.lit _) (.cons (za1 zab) (.cons (za1 (eI .i64)) (.cons (za1 (eI .u64)) (.cons (za1 (eI .i64)) .nil)))))) (.cons (.lit _) .nil)))
 rw[c4,cond_true]at h;try simp only[rnA,Nat.reduceEqDiff,Nat.reduceLT,Nat.reduceAdd,Nat.reduceLeDiff]
 replace h:=qae h; subst h;exact zmU.ret rfl (Snp.zlF (.cons (.zhg (.cons (.lit _) (.cons (za1 zab) (.cons (za1 (eI .i64)) (.cons (za1 (eI .u64)) (.cons (za1 (eI .i64)) .nil)))))) (.cons (.lit _) .nil)))
def zds(r1:(S_factor_table×Int))(r4:Int)(p2:Int)(q21:Int):List (Int×Int×(List Int))→(List Int)→Option (List Int)
 | [],l5=>some l5
 | y31 :: ys,l5=>(
(za3 r1.1.steps r4).bind fun x32=>
(za3 r1.1.factor.w (w64 (y31.2.1+(w64 (p2 * x32))))).bind fun x34=>
(za3 l5 y31.1).bind fun x36=>
(zfo l5 y31.1 x34).bind fun y38=>
zds r1 r4 p2 q21 ys y38)
def zdO(p0:S_api_Factor)(p1:Int)(p2:Int):Option (S_api_Factor×Int):=
(zcO p0).bind fun r1=>
bif (r1.2 == 0)then(
(zaQ r1.1 p1).bind fun r4=>
bif (decide (r4<0))then(
some ((S_api_Factor.mk [] [] []),4))
else(
((bif (decide (p2<0))then(
some true)
else(
(za3 r1.1.factor.zay r4).bind fun x8=>
some (decide (x8≤p2))):Option Bool)).bind fun v42=>
bif v42 then(
some ((S_api_Factor.mk [] [] []),2))
else(
(ze3 8 r1.1.factor.vars).bind fun y11=>
(zx1 y11 r4 (w64 (r4+1))).bind fun y13=>
(ze3 8 r1.1.factor.zay).bind fun y15=>
(zx1 y15 r4 (w64 (r4+1))).bind fun y17=>
(za3 r1.1.factor.zay r4).bind fun x19=>
(ztA .i64 (r1.1.factor.w.length:Int) x19).bind fun q21=>
(zen 8 q21 0).bind fun y23=>
(zcb r1.1 y13).bind fun r25=>
(zdm y17 r25).bind fun r27=>
(zz4 r27.1 r27.2).bind fun u29=>
((zds r1 r4 p2 q21 u29 y23:Option (List Int))).bind fun l5=>
some ((S_api_Factor.mk y13 y17 l5),0))))
else(
some ((S_api_Factor.mk [] [] []),r1.2))
def zaP(p1:(List Int))(r1:(S_net_network×Int)):Nat→Int→Option (Out Unit Int)
 | 0,_=>none
 | n+1,v26=>(
bif (decide (v26<(p1.length:Int)))then(
(za3 p1 v26).bind fun x6=>
((bif (decide (x6<(-1)))then(
some true)
else(
(za3 r1.1.zay v26).bind fun x9=>
some (decide (x9≤x6))):Option Bool)).bind fun v41=>
bif v41 then(
some (.ret 2))
else(
zaP p1 r1 n (w64 (v26+1))))
else(
some (.go ())))
def zba(p0:S_api_Net)(p1:(List Int)):Option Int:=
(zdy p0).bind fun r1=>
bif (r1.2 == 0)then(
bif ((p1.length:Int)==(r1.1.net.nodes.length:Int))then(
((zaP p1 r1 ((p1.length:Int) - 0+2:Int).toNat 0:Option (Out Unit Int))).bind fun o=>match o with
| .go _=>(
some 0)
| .ret r=>some r)
else(
some 2))
else(
some r1.2)
theorem zft{p0:S_api_Net}{p1:(List Int)}{r:Int}(h:zba p0 p1=some r):Lx.Fn mC 67 [(.agg [(dI p0.grain),(fzE false zab p0.nodes)]),(fzE false (eI .i64) p1)] (dI r):=by
 refine fnO (by conv=>lhs; cbv) ?_;unfold zba at h;refine zaa ?_;obtain⟨r1,g2,h⟩:=bind_some h;try simp only[rnA,Nat.reduceEqDiff,Nat.reduceLT,Nat.reduceAdd,Nat.reduceLeDiff,reduceCtorEq]
 refine EvL.fnS (ziQ g2) rfl rfl (.cons (Mzs.agg (.cons (.lit _) (.cons (zhb _ _ (fun h=>by cases h<;>contradiction)) .nil))) .nil) ⟨⟨qdn,(zcT _ _),qdn⟩,qdn⟩ ⟨⟨qdn,(zcT _ _),(zcT _ _),(zcT _ _),(zcT _ _),qdn⟩,qdn,qdn⟩ ?_;try simp only[rnA,Nat.reduceEqDiff,Nat.reduceLT,Nat.reduceAdd,Nat.reduceLeDiff,reduceCtorEq]
 cases c3:(r1.2 == 0)
 ·rw[c3,cond_false]at h;try simp only[rnA,Nat.reduceEqDiff,Nat.reduceLT,reduceCtorEq]
  replace h:=qae h; subst h;exact zeb.ret rfl (.lit _)
 rw[c3,cond_true]at h;try simp only[rnA,Nat.reduceEqDiff,Nat.reduceLT,reduceCtorEq,zaC]
 cases c4:((p1.length:Int)==(r1.1.net.nodes.length:Int))
 ·rw[c4,cond_false]at h;try simp only[rnA,Nat.reduceLT]
  replace h:=qae h; subst h;exact zeb.ret rfl (.lit _)
 rw[c4,cond_true]at h;try simp only[rnA,Nat.reduceEqDiff,Nat.reduceLT,reduceCtorEq,zaC]
 obtain⟨o4,j4,h⟩:=bind_some h;obtain⟨T4,hT4⟩:=mkT fun a:Unit=>⟨43,[],[]⟩
 refine EvL.jn T4 (fun a=>o4=.go a) ?_ ?_
 ·refine zaa ?_;simp only[rnA];obtain⟨T7,hT7⟩:=mkT fun a:Int=>⟨43,[(5,(.ptr 1 0)),(24,(fzE false (eI .i64) p1)),(25,(dI (p1.length:Int))),(26,(dI a))],[.gone,.cells [(dI r1.1.net.grain),(fzE false zab r1.1.net.nodes),(fzE false (eI .i64) r1.1.zay),(fzE false (eI .u64) r1.1.sets),(fzE false (eI .i64) r1.1.order)]]⟩
  refine EvL.rounds (α:=Int) T7 (fun n a=>zaP p1 r1 n a=some o4) ((p1.length:Int) - 0+2:Int).toNat 0 (by rw[hT7]; exact wm0 [.d,.k] ⟨rfl,⟨MB.cs ⟨qdn,qdn,qdn,qdn,qdn,qdn⟩,qdn⟩⟩) j4 (fun _ h=>nomatch (show(none:Option (Out Unit Int))=some o4 from h)) ?_;rintro n v26 j4;simp only[zaP]at j4;rw[congrFun hT7 v26];refine zaa ?_;try simp only[rnA,Nat.reduceEqDiff,Nat.reduceLT]
  cases c5:(decide (v26<(p1.length:Int)))
  ·rw[c5,cond_false]at j4;try simp only[rnA]
   replace j4:=qae j4; subst j4;exact lfj hT4 rfl (wm0 [] (by exact trivial))
  rw[c5,cond_true]at j4;obtain⟨x6,g7,j4⟩:=bind_some j4;try simp only[rnA,Nat.reduceEqDiff,Nat.reduceLT,zaS (n:=1) (e:=(eI .i64)) rfl g7]
  obtain⟨o8,j8,j4⟩:=bind_some j4;obtain⟨T8,hT8⟩:=mkT fun a:Bool=>⟨43,[(5,(.ptr 1 0)),(24,(fzE false (eI .i64) p1)),(25,(dI (p1.length:Int))),(26,(dI v26)),(41,(dB a))],[.gone,.cells [(dI r1.1.net.grain),(fzE false zab r1.1.net.nodes),(fzE false (eI .i64) r1.1.zay),(fzE false (eI .u64) r1.1.sets),(fzE false (eI .i64) r1.1.order)]]⟩
  refine EvL.jn T8 (fun a=>a=o8) ?_ ?_
  ·refine zaa ?_;try simp only[rnA,Nat.reduceEqDiff,Nat.reduceLT]
   cases c8:(decide (x6<(-1)))
   ·rw[c8,cond_false]at j8;obtain⟨x9,g10,j8⟩:=bind_some j8;try simp only[rnA,Nat.reduceEqDiff,Nat.reduceLT,zaS (n:=1) (e:=(eI .i64)) rfl g10]
    replace j8:=qae j8; subst j8;exact lfj hT8 rfl (wm0 [.d,.k] ⟨rfl,⟨MB.cs ⟨qdn,qdn,qdn,qdn,qdn,qdn⟩,qdn⟩⟩)
   rw[c8,cond_true]at j8;try simp only[rnA,Nat.reduceEqDiff,Nat.reduceLT]
   replace j8:=qae j8; subst j8;exact lfj hT8 rfl (wm0 [.d,.k] ⟨rfl,⟨MB.cs ⟨qdn,qdn,qdn,qdn,qdn,qdn⟩,qdn⟩⟩)
  rintro v41 rfl;rw[congrFun hT8 v41];refine zaa ?_;try simp only[rnA,Nat.reduceEqDiff]
  cases c11:v41
  ·rw[c11,cond_false]at j4;try simp only[rnA,Nat.reduceEqDiff,Nat.reduceLT]
   exact⟨(w64 (v26+1)),j4,by rw[hT7]; exact wm0 [.d,.k] ⟨rfl,⟨MB.cs ⟨qdn,qdn,qdn,qdn,qdn,qdn⟩,qdn⟩⟩⟩
  rw[c11,cond_true]at j4;try simp only[rnA,Nat.reduceLT]
  replace j4:=qae j4; subst j4;dsimp only at h;replace h:=qae h; subst h;exact zeb.ret rfl (.lit _)
 rintro⟨⟩ rfl;dsimp only at h;rw[congrFun hT4 ()];refine zaa ?_;try simp only[rnA,Nat.reduceLT]
 replace h:=qae h; subst h;exact zeb.ret rfl (.lit _)
def zbW(p0:S_api_Net)(p1:(List Int))(p2:Int):Option (S_eliminate_query×Int):=
(zba p0 p1).bind fun r1=>
bif (r1 == 0)then(
((bif (decide (p2<0))then(
some true)
else(
some (decide ((p0.nodes.length:Int)≤p2))):Option Bool)).bind fun v24=>
bif v24 then(
some ((S_eliminate_query.mk (S_api_Net.mk 0 []) [] 0),2))
else(
some ((S_eliminate_query.mk p0 p1 p2),0)))
else(
some ((S_eliminate_query.mk (S_api_Net.mk 0 []) [] 0),r1))
theorem zhp{p0:S_api_Net}{p1:(List Int)}{p2:Int}{r:(S_eliminate_query×Int)}(h:zbW p0 p1 p2=some r):Lx.FnA mC 39 [(.agg [(dI p0.grain),(fzE false zab p0.nodes)]),(fzE false (eI .i64) p1),(dI p2)] (.tup [(.agg [(dI r.1.net.grain),(fzE false zab r.1.net.nodes),(fzE false (eI .i64) r.1.known),(dI r.1.node)]),(dI r.2)]):=by
 refine zCy (by conv=>lhs; cbv) ?_;unfold zbW at h;refine zaa ?_;obtain⟨r1,g2,h⟩:=bind_some h;try simp only[rnA,Nat.reduceEqDiff,Nat.reduceLT,Nat.reduceAdd,Nat.reduceLeDiff,reduceCtorEq]
 refine EvL.fn (zft g2) rfl rfl (.cons (.zhg (.cons (.lit _) (.cons (zaO _ _ (fun h=>nomatch h)) .nil))) (.cons (zaO _ _ (fun h=>nomatch h)) .nil)) ?_;try simp only[rnA,Nat.reduceEqDiff,Nat.reduceLT,reduceCtorEq]
 cases c3:(r1 == 0)
 ·rw[c3,cond_false]at h;try simp only[rnA,Nat.reduceEqDiff,Nat.reduceLT,Nat.reduceAdd,Nat.reduceLeDiff,reduceCtorEq]
  replace h:=qae h; subst h;exact zmU.ret rfl (Snp.zlF (.cons (.zhg (.cons (.lit _) (.cons (za1 zab) (.cons (za1 (eI .i64)) (.cons (.lit _) .nil))))) (.cons (.lit _) .nil)))
 rw[c3,cond_true]at h;try simp only[rnA]
 obtain⟨o1,j1,h⟩:=bind_some h;obtain⟨T1,hT1⟩:=mkT fun a:Bool=>⟨30,[(1,(fzE false (eI .i64) p1)),(2,(dI p2)),(3,(.ptr 0 0)),(6,(.ptr 1 0)),(24,(dB a))],[.cells [(dI p0.grain),(fzE false zab p0.nodes)],.cells [(dI 0),zcE,zcE,(dI 0)]]⟩
 refine EvL.jn T1 (fun a=>a=o1) ?_ ?_
 ·refine zaa ?_;try simp only[rnA,Nat.reduceEqDiff,Nat.reduceLT,reduceCtorEq]
  cases c4:(decide (p2<0))
  ·rw[c4,cond_false]at j1;try simp only[rnA,Nat.reduceEqDiff,Nat.reduceLT,reduceCtorEq,zaC]
   replace j1:=qae j1; subst j1;exact lfj hT1 rfl (wm0 [.k,.k] ⟨MB.cs ⟨qdn,qdn,qdn⟩,⟨MB.cs ⟨qdn,qdn,qdn,qdn,qdn⟩,qdn⟩⟩)
  rw[c4,cond_true]at j1;try simp only[rnA,Nat.reduceEqDiff,Nat.reduceLT,reduceCtorEq]
  replace j1:=qae j1; subst j1;exact lfj hT1 rfl (wm0 [.k,.k] ⟨MB.cs ⟨qdn,qdn,qdn⟩,⟨MB.cs ⟨qdn,qdn,qdn,qdn,qdn⟩,qdn⟩⟩)
 rintro v24 rfl;rw[congrFun hT1 v24];refine zaa ?_;try simp only[rnA,Nat.reduceEqDiff]
 cases c5:v24
 ·rw[c5,cond_false]at h;try simp only[rnA,Nat.reduceEqDiff,Nat.reduceLT,Nat.reduceAdd,Nat.reduceLeDiff]
  replace h:=qae h; subst h;exact zmU.ret rfl (Snp.zlF (.cons (.zhg (.cons (.lit _) (.cons (zaO _ _ (fun h=>nomatch h)) (.cons (zaO _ _ (fun h=>nomatch h)) (.cons (.lit _) .nil))))) (.cons (.lit _) .nil)))
 rw[c5,cond_true]at h;try simp only[rnA,Nat.reduceEqDiff,Nat.reduceLT,Nat.reduceAdd,Nat.reduceLeDiff]
 replace h:=qae h; subst h;exact zmU.ret rfl (Snp.zlF (.cons (.zhg (.cons (.lit _) (.cons (za1 zab) (.cons (za1 (eI .i64)) (.cons (.lit _) .nil))))) (.cons (.lit _) .nil)))
end Go.Dc
