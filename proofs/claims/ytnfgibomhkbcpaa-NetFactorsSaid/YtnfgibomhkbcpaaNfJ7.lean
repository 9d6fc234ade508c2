/-
 What factor_agree computes. Conditions: none.
-/
import Derived.Test.YtnfgibomhkbcpaaNfJ6
set_option linter.unusedSimpArgs false
set_option linter.unusedVariables false
set_option maxRecDepth 100000
set_option maxHeartbeats 4000000
namespace Go.Dc
open Go Go.Mx Go.Lx Go.Proofs
def zdk(p0:(List Int)):Nat→(List Int)→Bool→(List (List Int))→Option (List (List Int))
 | 0,_,_,_=>none
 | n+1,v4,v5,l1=>(
bif v5 then(
(zcW 24 l1 [v4]).bind fun y4=>
(zet p0 v4).bind fun r6=>
zdk p0 n r6.1 r6.2 y4)
else(
some l1))
def ze9(N:Nat)(p0:(List Int)):Option (List (List Int)):=
(zfB 8 (p0.length:Int) 0).bind fun y1=>
((zdk p0 N y1 true []:Option (List (List Int)))).bind fun l1=>
some l1
theorem zo4{N:Nat}{p0:(List Int)}{r:(List (List Int))}(h:ze9 N p0=some r):Lx.Fn mC 85 [(fzE false (eI .i64) p0)] (fzE true (eL (eI .i64)) r):=by
 refine fnO (by conv=>lhs; cbv) ?_;unfold ze9 at h;refine zab ?_;obtain⟨y1,g2,h⟩:=bind_some h;try simp only[rnA,Nat.reduceEqDiff,Nat.reduceLT,reduceCtorEq,zam,(za8 g2).1.1,(za8 g2).1.2,qce,(show List.replicate (Int.toNat (p0.length:Int)) [(dI 0)]=y1.map ((eI .i64).c true)from zdy g2 ((eI .i64).c true))]
 obtain⟨o1,j1,h⟩:=bind_some h;obtain⟨T1,hT1⟩:=mkT fun a:(List (List Int))=>⟨21,[(3,(.sl 1 0 1 a.length none a.length))],[.gone,.grow 1 (a.map ((eL (eI .i64)).c true))]⟩
 refine EvL.jn T1 (fun a=>a=o1) ?_ ?_
 ·refine zab ?_;simp only[rnA];obtain⟨T2,hT2⟩:=mkT fun a:((List Int)×Bool×(List (List Int)))=>⟨21,[(0,(fzE false (eI .i64) p0)),(3,(.sl 1 0 1 a.2.2.length none a.2.2.length)),(4,(fzE true (eI .i64) a.1)),(5,(dB a.2.1))],[.gone,.grow 1 (a.2.2.map ((eL (eI .i64)).c true))]⟩
  refine EvL.zdJ (zbx.ghost (n:=1) (k:=3) (by decide) rfl) ?_;refine EvL.rounds (α:=((List Int)×Bool×(List (List Int)))) T2 (fun n a=>zdk p0 n a.1 a.2.1 a.2.2=some o1) N (y1,true,[]) (by rw[hT2]; exact zbx.m0 [.f,.k] rfl (msq (msq (mf rfl (zc8 (e:=(eI .i64)) (t:=true) rfl rfl (.inl rfl) (zcl g2).symm (zcl g2).symm (fun k h=>by cases h; exact qaj _) (fun h=>by cases h<;>rfl)) (msq trivial)))) ⟨rfl,⟨MB.gs (eL (eI .i64)) true [],qdc⟩⟩) j1 (fun _ h=>nomatch (show(none:Option (List (List Int)))=some o1 from h)) ?_;rintro n ⟨v4,v5,l1⟩ j1;simp only[zdk]at j1;rw[congrFun hT2 (v4,v5,l1)];refine zab ?_;try simp only[rnA,Nat.reduceEqDiff,Nat.reduceLT,reduceCtorEq]
  cases c3:v5
  ·rw[c3,cond_false]at j1;try simp only[rnA]
   replace j1:=qac j1; subst j1;exact lfj hT1 rfl (wm0 [.d,.k] ⟨rfl,⟨MB.gs (eL (eI .i64)) true l1,qdc⟩⟩)
  rw[c3,cond_true]at j1;obtain⟨y4,g5,j1⟩:=bind_some j1;obtain⟨r6,g7,j1⟩:=bind_some j1;try simp only[rnA,Nat.reduceEqDiff,Nat.reduceLT,Nat.reduceAdd,Nat.reduceLeDiff,reduceCtorEq,zbP g5,(show l1.length+1=y4.length from zbf g5),(show l1.map ((eL (eI .i64)).c true)++ [[(fzE true (eI .i64) v4)]]=y4.map ((eL (eI .i64)).c true)from zbG g5 ((eL (eI .i64)).c true))]
  refine EvL.fn (zmq g7) rfl rfl (.cons (zat _ _ (fun h=>nomatch h)) (.cons (zat _ _ (fun h=>nomatch h)) .nil)) ?_;try simp only[rnA,Nat.reduceEqDiff,Nat.reduceLT,reduceCtorEq]
  exact⟨(r6.1,r6.2,y4),j1,by rw[hT2]; exact wm0 [.d,.k] ⟨rfl,⟨MB.gs (eL (eI .i64)) true y4,qdc⟩⟩⟩
 rintro l1 rfl;rw[congrFun hT1 l1];refine zab ?_;try simp only[rnA,Nat.reduceEqDiff,Nat.reduceLT]
 replace h:=qac h; subst h;exact zbO.ret rfl (zal (e:=(eL (eI .i64))) (t:=true) rfl (.inr rfl) rfl rfl (fun k h=>nomatch h) (fun _=>rfl))
def zbX(p0:S_api_Net):Nat→Int→Int→Option (Out Int Bool)
 | 0,_,_=>none
 | n+1,v3,v4=>(
bif (decide (v4<(p0.nodes.length:Int)))then(
(zaP p0.nodes v4).bind fun x6=>
((bif (decide (x6.card<1))then(
some true)
else(
bif (decide (4<x6.card))then(
some true)
else(
(zdv x6.parents (p0.nodes.length:Int)).bind fun r10=>
some (!r10))):Option Bool)).bind fun v59=>
bif v59 then(
some (.ret false))
else(
zbX p0 n (w64 (v3 * x6.card)) (w64 (v4+1))))
else(
some (.go v3)))
def zcg(x28:(List Int))(p0:S_api_Net):Nat→Int→Int→Option (Out Int Bool)
 | 0,_,_=>none
 | n+1,v9,v10=>(
bif (decide (v10<(x28.length:Int)))then(
(((zaP x28 v10).bind fun x32=>
bif (decide (x32<0))then(
some true)
else(
some (decide (p0.grain<x32))):Option Bool)).bind fun v139=>
bif v139 then(
some (.ret false))
else(
(zaP x28 v10).bind fun x36=>
zcg x28 p0 n (w64 (v9+x36)) (w64 (v10+1))))
else(
some (.go v9)))
def zco(x20:S_api_Node)(p0:S_api_Net):Nat→Int→Option (Out Unit Bool)
 | 0,_=>none
 | n+1,v8=>(
bif (decide (v8<(x20.rows.length:Int)))then(
(zaP x20.rows v8).bind fun x28=>
bif ((x28.length:Int)== x20.card)then(
((zcg x28 p0 ((x28.length:Int) - 0+2:Int).toNat 0 0:Option (Out Int Bool))).bind fun o=>match o with
| .go v9=>(
bif (v9 == p0.grain)then(
zco x20 p0 n (w64 (v8+1)))
else(
some (.ret false)))
| .ret r=>some (.ret r))
else(
some (.ret false)))
else(
some (.go ())))
def zcp(p0:S_api_Net):Nat→Int→Option (Out Unit Bool)
 | 0,_=>none
 | n+1,v6=>(
bif (decide (v6<(p0.nodes.length:Int)))then(
(zaP p0.nodes v6).bind fun x20=>
(zaG p0 v6).bind fun r22=>
(zcq r22).bind fun r24=>
bif ((x20.rows.length:Int)== r24)then(
((zco x20 p0 ((x20.rows.length:Int) - 0+2:Int).toNat 0:Option (Out Unit Bool))).bind fun o=>match o with
| .go _=>(
zcp p0 n (w64 (v6+1)))
| .ret r=>some (.ret r))
else(
some (.ret false)))
else(
some (.go ())))
def zdc(p0:S_api_Net):Option Bool:=
((bif (decide (p0.grain<1))then(
some true)
else(
bif (decide (60<p0.grain))then(
some true)
else(
bif (decide ((p0.nodes.length:Int)<1))then(
some true)
else(
some (decide (8<(p0.nodes.length:Int)))))):Option Bool)).bind fun v30=>
bif v30 then(
some false)
else(
((zbX p0 ((p0.nodes.length:Int) - 0+2:Int).toNat 1 0:Option (Out Int Bool))).bind fun o=>match o with
| .go v3=>(
((bif (decide (1024<v3))then(
some true)
else(
(za6 p0).bind fun r14=>
(zcs r14).bind fun r16=>
some (!r16)):Option Bool)).bind fun v71=>
bif v71 then(
some false)
else(
((zcp p0 ((p0.nodes.length:Int) - 0+2:Int).toNat 0:Option (Out Unit Bool))).bind fun o=>match o with
| .go _=>(
some true)
| .ret r=>some r))
| .ret r=>some r)
def zh8:C:=
 .seq (rg [oW 1 0,
 oJ 2 false])
 (.seq (.seq (.scope (rg [oF 11 0 1,
 oL 12 11,
 oD 13 .lss 12 1,
 oM 14 13,
 oFg 15 0 1 14 false,
 oLg 16 15 14 false,
 oDg 17 .gtr 16 60 14 false,
 oP 18 14 17,
 oM 19 18,
 oFg 20 1 1 19 false,
 oLg 21 20 19 false,
 ⟨some 22,.len (.s 21),some (19,false)⟩,
 oDg 23 .lss 22 1 19 false,
 oP 24 19 23,
 oM 25 24,
 oFg 26 1 1 25 false,
 oLg 27 26 25 false,
 ⟨some 28,.len (.s 27),some (25,false)⟩,
 oDg 29 .gtr 28 8 25 false,
 oP 30 25 29]))
 (.cond (.s 30) (.seq (rg [oJ 2 false])
 (.ret))
 (.skip)))
 (.seq (rg [oK 3 1])
 (.seq (.seq (rg [oK 4 0])
 (.scope (.block 0 (.loop (.seq (.seq (rg [oM 31 4,
 oF 32 1 1,
 oL 33 32,
 oE 34 33,
 oB 35 .lss 31 34])
 (.cond (.s 35) (.skip)
 (.exit 0)))
 (.seq (.block 1 (.seq (rg [oF 38 1 1,
 oL 39 38,
 oM 40 4,
 oI 41 3 39 40,
 oN 42 3 41,
 ⟨some 5,.alloc [(.int .i64 0),(.slice none 0 0),(.slice none 0 0)],none⟩,
 oS 3 5 42])
 (.seq (.seq (.scope (rg [oF 43 0 5,
 oL 44 43,
 oD 45 .lss 44 1,
 oM 46 45,
 oFg 47 0 5 46 false,
 oLg 48 47 46 false,
 oDg 49 .gtr 48 4 46 false,
 oP 50 46 49,
 oM 51 50,
 oFg 52 1 5 51 false,
 oLg 53 52 51 false,
 oFg 54 1 1 51 false,
 oLg 55 54 51 false,
 ⟨some 56,.len (.s 55),some (51,false)⟩,
 ⟨some 57,.call 79 [(.s 53),(.s 56)],some (51,false)⟩,
 ⟨some 58,.un .not (.s 57),some (51,false)⟩,
 oP 59 51 58]))
 (.cond (.s 59) (.seq (rg [oJ 2 false])
 (.ret))
 (.skip)))
 (rg [oM 60 3,
 oF 61 0 5,
 oL 62 61,
 oB 63 .mul 60 62,
 oM 3 63]))))
 (rg [oM 36 4,
 oD 37 .add 36 1,
 oM 4 37])))))))
 (.seq (.seq (.scope (rg [oM 64 3,
 oD 65 .gtr 64 1024,
 oM 66 65,
 ⟨some 67,.load (some 2) (.s 1),some (66,false)⟩,
 ⟨some 68,.call 81 [(.s 67)],some (66,false)⟩,
 ⟨some 69,.call 80 [(.s 68)],some (66,false)⟩,
 ⟨some 70,.un .not (.s 69),some (66,false)⟩,
 oP 71 66 70]))
 (.cond (.s 71) (.seq (rg [oJ 2 false])
 (.ret))
 (.skip)))
 (.seq (.seq (rg [oK 6 0])
 (.scope (.block 2 (.loop (.seq (.seq (rg [oM 72 6,
 oF 73 1 1,
 oL 74 73,
 oE 75 74,
 oB 76 .lss 72 75])
 (.cond (.s 76) (.skip)
 (.exit 2)))
 (.seq (.block 3 (.seq (rg [oF 79 1 1,
 oL 80 79,
 oM 81 6,
 oI 82 3 80 81,
 oN 83 3 82,
 ⟨some 7,.alloc [(.int .i64 0),(.slice none 0 0),(.slice none 0 0)],none⟩,
 oS 3 7 83])
 (.seq (.seq (.reg true true [oF 84 2 7,
 oL 85 84,
 oE 86 85,
 oN 87 2 1,
 oM 88 6,
 oV 89 83 87 88,
 oU 90 82 89,
 oB 91 .neq 86 90])
 (.cond (.s 91) (.seq (rg [oJ 2 false])
 (.ret))
 (.skip)))
 (.seq (rg [oK 8 0])
 (.scope (.block 4 (.loop (.seq (.seq (rg [oM 92 8,
 oF 93 2 7,
 oL 94 93,
 oE 95 94,
 oB 96 .lss 92 95])
 (.cond (.s 96) (.skip)
 (.exit 4)))
 (.seq (.block 5 (.seq (.seq (.reg true false [oF 99 2 7,
 oL 100 99,
 oM 101 8,
 oI 102 1 100 101,
 oL 103 102,
 oE 104 103,
 oF 105 0 7,
 oL 106 105,
 oB 107 .neq 104 106])
 (.cond (.s 107) (.seq (rg [oJ 2 false])
 (.ret))
 (.skip)))
 (.seq (rg [oK 9 0])
 (.seq (.seq (rg [oK 10 0])
 (.scope (.block 6 (.loop (.seq (.seq (rg [oM 108 10,
 oF 109 2 7,
 oL 110 109,
 oM 111 8,
 oI 112 1 110 111,
 oL 113 112,
 oE 114 113,
 oB 115 .lss 108 114])
 (.cond (.s 115) (.skip)
 (.exit 6)))
 (.seq (.block 7 (.seq (.seq (.scope (.reg true false [oF 118 2 7,
 oL 119 118,
 oM 120 8,
 oI 121 1 119 120,
 oL 122 121,
 oM 123 10,
 oI 124 1 122 123,
 oL 125 124,
 oD 126 .lss 125 0,
 oM 127 126,
 oFg 128 2 7 127 false,
 oLg 129 128 127 false,
 oMg 130 8 127 false,
 ⟨some 131,.idxS 1 (.s 129) (.s 130),some (127,false)⟩,
 oLg 132 131 127 false,
 oMg 133 10 127 false,
 ⟨some 134,.idxS 1 (.s 132) (.s 133),some (127,false)⟩,
 oLg 135 134 127 false,
 oFg 136 0 1 127 false,
 oLg 137 136 127 false,
 ⟨some 138,.bin .gtr (.s 135) (.s 137),some (127,false)⟩,
 oP 139 127 138]))
 (.cond (.s 139) (.seq (rg [oJ 2 false])
 (.ret))
 (.skip)))
 (rg [oM 140 9,
 oF 141 2 7,
 oL 142 141,
 oM 143 8,
 oI 144 1 142 143,
 oL 145 144,
 oM 146 10,
 oI 147 1 145 146,
 oL 148 147,
 oB 149 .add 140 148,
 oM 9 149])))
 (rg [oM 116 10,
 oD 117 .add 116 1,
 oM 10 117])))))))
 (.seq (rg [oM 150 9,
 oF 151 0 1,
 oL 152 151,
 oB 153 .neq 150 152])
 (.cond (.s 153) (.seq (rg [oJ 2 false])
 (.ret))
 (.skip)))))))
 (rg [oM 97 8,
 oD 98 .add 97 1,
 oM 8 98]))))))))))
 (rg [oM 77 6,
 oD 78 .add 77 1,
 oM 6 78])))))))
 (.seq (rg [oJ 2 true])
 (.ret)))))))
theorem zj9:zkn mC 17=some (154,zh8,[.tmp 2],false):=zb5 (by kernel_rfl)
theorem zlc{p0:S_api_Net}{r:Bool}(h:zdc p0=some r):Lx.Fn mC 17 [(.agg [(dI p0.grain),(fzE false zaa p0.nodes)])] (dB r):=by
 refine Fn.of zj9 (zbF rfl) (qaf rfl) ?_;unfold zdc at h;simp only[zh8,ze3];refine zab ?_;try simp only[rnA,Nat.reduceLT]
 obtain⟨o1,j1,h⟩:=bind_some h;obtain⟨T1,hT1⟩:=mkT fun a:Bool=>⟨154,[(1,(.ptr 0 0)),(30,(dB a))],[.cells [(dI p0.grain),(fzE false zaa p0.nodes)]]⟩
 refine EvL.jn T1 (fun a=>a=o1) ?_ ?_
 ·refine zab ?_;try simp only[rnA,Nat.reduceEqDiff,Nat.reduceLT,reduceCtorEq]
  cases c1:(decide (p0.grain<1))
  ·rw[c1,cond_false]at j1;try simp only[rnA,Nat.reduceEqDiff,Nat.reduceLT,reduceCtorEq]
   cases c2:(decide (60<p0.grain))
   ·rw[c2,cond_false]at j1;try simp only[rnA,Nat.reduceEqDiff,Nat.reduceLT,reduceCtorEq,zam]
    cases c3:(decide ((p0.nodes.length:Int)<1))
    ·rw[c3,cond_false]at j1;try simp only[rnA,Nat.reduceEqDiff,Nat.reduceLT,reduceCtorEq,zam]
     replace j1:=qac j1; subst j1;exact lfj hT1 rfl (wm0 [.k] ⟨MB.cs ⟨qdc,qdc,qdc⟩,qdc⟩)
    rw[c3,cond_true]at j1;try simp only[rnA,Nat.reduceEqDiff,Nat.reduceLT,reduceCtorEq]
    replace j1:=qac j1; subst j1;exact lfj hT1 rfl (wm0 [.k] ⟨MB.cs ⟨qdc,qdc,qdc⟩,qdc⟩)
   rw[c2,cond_true]at j1;try simp only[rnA,Nat.reduceEqDiff,Nat.reduceLT,reduceCtorEq]
   replace j1:=qac j1; subst j1;exact lfj hT1 rfl (wm0 [.k] ⟨MB.cs ⟨qdc,qdc,qdc⟩,qdc⟩)
  rw[c1,cond_true]at j1;try simp only[rnA,Nat.reduceEqDiff,Nat.reduceLT,reduceCtorEq]
  replace j1:=qac j1; subst j1;exact lfj hT1 rfl (wm0 [.k] ⟨MB.cs ⟨qdc,qdc,qdc⟩,qdc⟩)
 rintro v30 rfl;rw[congrFun hT1 v30];refine zab ?_;try simp only[rnA,Nat.reduceEqDiff]
 cases c4:v30
 ·rw[c4,cond_false]at h;try simp only[rnA,Nat.reduceLT]
  obtain⟨o5,j5,h⟩:=bind_some h;obtain⟨T5,hT5⟩:=mkT fun a:Int=>⟨154,[(1,(.ptr 0 0)),(3,(dI a))],[.cells [(dI p0.grain),(fzE false zaa p0.nodes)]]⟩
  refine EvL.jn T5 (fun a=>o5=.go a) ?_ ?_
  ·refine zab ?_;simp only[rnA];obtain⟨T8,hT8⟩:=mkT fun a:(Int×Int)=>⟨154,[(1,(.ptr 0 0)),(3,(dI a.1)),(4,(dI a.2))],[.cells [(dI p0.grain),(fzE false zaa p0.nodes)]]⟩
   refine EvL.rounds (α:=(Int×Int)) T8 (fun n a=>zbX p0 n a.1 a.2=some o5) ((p0.nodes.length:Int) - 0+2:Int).toNat (1,0) (by rw[hT8]; exact wm0 [.k] ⟨MB.cs ⟨qdc,qdc,qdc⟩,qdc⟩) j5 (fun _ h=>nomatch (show(none:Option (Out Int Bool))=some o5 from h)) ?_;rintro n ⟨v3,v4⟩ j5;simp only[zbX]at j5;rw[congrFun hT8 (v3,v4)];refine zab ?_;try simp only[rnA,Nat.reduceEqDiff,Nat.reduceLT,zam]
   cases c5:(decide (v4<(p0.nodes.length:Int)))
   ·rw[c5,cond_false]at j5;try simp only[rnA]
    replace j5:=qac j5; subst j5;exact lfj hT5 rfl (wm0 [.k] ⟨MB.cs ⟨qdc,qdc,qdc⟩,qdc⟩)
   rw[c5,cond_true]at j5;obtain⟨x6,g7,j5⟩:=bind_some j5;try simp only[rnA,Nat.reduceEqDiff,Nat.reduceLT,Nat.reduceAdd,Nat.reduceLeDiff,zad,zak (n:=3) (e:=zaa) rfl g7]
   obtain⟨o9,j9,j5⟩:=bind_some j5;obtain⟨T9,hT9⟩:=mkT fun a:Bool=>⟨154,[(1,(.ptr 0 0)),(3,(dI v3)),(4,(dI v4)),(5,(.ptr 1 0)),(59,(dB a))],[.cells [(dI p0.grain),(fzE false zaa p0.nodes)],.cells [(dI x6.card),(fzE false (eI .i64) x6.parents),(fzE false (eL (eI .i64)) x6.rows)]]⟩
   refine EvL.jn T9 (fun a=>a=o9) ?_ ?_
   ·refine zab ?_;try simp only[rnA,Nat.reduceEqDiff,Nat.reduceLT]
    cases c8:(decide (x6.card<1))
    ·rw[c8,cond_false]at j9;try simp only[rnA,Nat.reduceEqDiff,Nat.reduceLT]
     cases c9:(decide (4<x6.card))
     ·rw[c9,cond_false]at j9;obtain⟨r10,g11,j9⟩:=bind_some j9;try simp only[rnA,Nat.reduceEqDiff,Nat.reduceLT,zam]
      refine EvL.fn (zki g11) rfl rfl (.cons (zat _ _ (fun h=>nomatch h)) (.cons (.lit _) .nil)) ?_;try simp only[rnA,Nat.reduceEqDiff,Nat.reduceLT]
      replace j9:=qac j9; subst j9;exact lfj hT9 rfl (wm0 [.k,.k] ⟨MB.cs ⟨qdc,qdc,qdc⟩,⟨MB.cs ⟨qdc,qdc,qdc,qdc⟩,qdc⟩⟩)
     rw[c9,cond_true]at j9;try simp only[rnA,Nat.reduceEqDiff,Nat.reduceLT]
     refine EvL.skip rfl ?_;try simp only[rnA,Nat.reduceEqDiff,Nat.reduceLT]
     replace j9:=qac j9; subst j9;exact lfj hT9 rfl (wm0 [.k,.k] ⟨MB.cs ⟨qdc,qdc,qdc⟩,⟨MB.cs ⟨qdc,qdc,qdc,qdc⟩,qdc⟩⟩)
    rw[c8,cond_true]at j9;try simp only[rnA,Nat.reduceEqDiff,Nat.reduceLT]
    refine EvL.skip rfl ?_;try simp only[rnA,Nat.reduceEqDiff,Nat.reduceLT]
    replace j9:=qac j9; subst j9;exact lfj hT9 rfl (wm0 [.k,.k] ⟨MB.cs ⟨qdc,qdc,qdc⟩,⟨MB.cs ⟨qdc,qdc,qdc,qdc⟩,qdc⟩⟩)
   rintro v59 rfl;rw[congrFun hT9 v59];refine zab ?_;try simp only[rnA,Nat.reduceEqDiff]
   cases c12:v59
   ·rw[c12,cond_false]at j5;try simp only[rnA,Nat.reduceEqDiff,Nat.reduceLT]
    exact⟨((w64 (v3 * x6.card)),(w64 (v4+1))),j5,by rw[hT8]; exact wm0 [.k] ⟨MB.cs ⟨qdc,qdc,qdc⟩,qdc⟩⟩
   rw[c12,cond_true]at j5;try simp only[rnA,Nat.reduceLT]
   replace j5:=qac j5; subst j5;dsimp only at h;replace h:=qac h; subst h;exact zbO.ret rfl (.lit _)
  rintro v3 rfl;dsimp only at h;rw[congrFun hT5 v3];refine zab ?_;try simp only[rnA]
  obtain⟨o10,j10,h⟩:=bind_some h;obtain⟨T10,hT10⟩:=mkT fun a:Bool=>⟨154,[(1,(.ptr 0 0)),(71,(dB a))],[.cells [(dI p0.grain),(fzE false zaa p0.nodes)]]⟩
  refine EvL.jn T10 (fun a=>a=o10) ?_ ?_
  ·refine zab ?_;try simp only[rnA,Nat.reduceEqDiff,Nat.reduceLT]
   cases c13:(decide (1024<v3))
   ·rw[c13,cond_false]at j10;obtain⟨r14,g15,j10⟩:=bind_some j10;try simp only[rnA,Nat.reduceEqDiff,Nat.reduceLT,Nat.reduceAdd,Nat.reduceLeDiff]
    refine EvL.fn (zeq g15) rfl rfl (.cons (.zc5 (.cons (.lit _) (.cons (zat _ _ (fun h=>nomatch h)) .nil))) .nil) ?_;obtain⟨r16,g17,j10⟩:=bind_some j10;try simp only[rnA,Nat.reduceLT]
    refine EvL.fn (ziq g17) rfl rfl (.cons (zat _ _ (fun h=>nomatch h)) .nil) ?_;try simp only[rnA,Nat.reduceEqDiff,Nat.reduceLT]
    replace j10:=qac j10; subst j10;exact lfj hT10 rfl (wm0 [.k] ⟨MB.cs ⟨qdc,qdc,qdc⟩,qdc⟩)
   rw[c13,cond_true]at j10;try simp only[rnA,Nat.reduceLT]
   refine EvL.skip rfl ?_;try simp only[rnA,Nat.reduceLT]
   refine EvL.skip rfl ?_;try simp only[rnA,Nat.reduceEqDiff,Nat.reduceLT]
   replace j10:=qac j10; subst j10;exact lfj hT10 rfl (wm0 [.k] ⟨MB.cs ⟨qdc,qdc,qdc⟩,qdc⟩)
  rintro v71 rfl;rw[congrFun hT10 v71];refine zab ?_;try simp only[rnA,Nat.reduceEqDiff]
  cases c18:v71
  ·rw[c18,cond_false]at h;try simp only[rnA,Nat.reduceLT]
   obtain⟨o161,j161,h⟩:=bind_some h;obtain⟨T161,hT161⟩:=mkT fun a:Unit=>⟨154,[],[]⟩
   refine EvL.jn T161 (fun a=>o161=.go a) ?_ ?_
   ·refine zab ?_;simp only[rnA];obtain⟨T262,hT262⟩:=mkT fun a:Int=>⟨154,[(1,(.ptr 0 0)),(6,(dI a))],[.cells [(dI p0.grain),(fzE false zaa p0.nodes)]]⟩
    refine EvL.rounds (α:=Int) T262 (fun n a=>zcp p0 n a=some o161) ((p0.nodes.length:Int) - 0+2:Int).toNat 0 (by rw[hT262]; exact wm0 [.k] ⟨MB.cs ⟨qdc,qdc,qdc⟩,qdc⟩) j161 (fun _ h=>nomatch (show(none:Option (Out Unit Bool))=some o161 from h)) ?_;rintro n v6 j161;simp only[zcp]at j161;rw[congrFun hT262 v6];refine zab ?_;try simp only[rnA,Nat.reduceEqDiff,Nat.reduceLT,zam]
    cases c19:(decide (v6<(p0.nodes.length:Int)))
    ·rw[c19,cond_false]at j161;try simp only[rnA]
     replace j161:=qac j161; subst j161;exact lfj hT161 rfl (wm0 [] (by exact trivial))
    rw[c19,cond_true]at j161;obtain⟨x20,g21,j161⟩:=bind_some j161;obtain⟨r22,g23,j161⟩:=bind_some j161;try simp only[rnA,Nat.reduceEqDiff,Nat.reduceLT,Nat.reduceAdd,Nat.reduceLeDiff,zad,zak (n:=3) (e:=zaa) rfl g21,zam]
    refine EvL.fn (zcZ g23) rfl rfl (.cons (.zc5 (.cons (.lit _) (.cons (zat _ _ (fun h=>nomatch h)) .nil))) (.cons (.lit _) .nil)) ?_;obtain⟨r24,g25,j161⟩:=bind_some j161;try simp only[rnA,Nat.reduceLT]
    refine EvL.fn (zh7 g25) rfl rfl (.cons (zat _ _ (fun h=>nomatch h)) .nil) ?_;try simp only[rnA,Nat.reduceEqDiff,Nat.reduceLT]
    cases c26:((x20.rows.length:Int)== r24)
    ·rw[c26,cond_false]at j161;try simp only[rnA,Nat.reduceLT]
     replace j161:=qac j161; subst j161;dsimp only at h;replace h:=qac h; subst h;exact zbO.ret rfl (.lit _)
    rw[c26,cond_true]at j161;try simp only[rnA,Nat.reduceLT]
    obtain⟨o287,j287,j161⟩:=bind_some j161;obtain⟨T287,hT287⟩:=mkT fun a:Unit=>⟨154,[(1,(.ptr 0 0)),(6,(dI v6))],[.cells [(dI p0.grain),(fzE false zaa p0.nodes)]]⟩
    refine EvL.jn T287 (fun a=>o287=.go a) ?_ ?_
    ·refine zab ?_;simp only[rnA];obtain⟨T304,hT304⟩:=mkT fun a:Int=>⟨154,[(1,(.ptr 0 0)),(6,(dI v6)),(7,(.ptr 1 0)),(8,(dI a))],[.cells [(dI p0.grain),(fzE false zaa p0.nodes)],.cells [(dI x20.card),(fzE false (eI .i64) x20.parents),(fzE false (eL (eI .i64)) x20.rows)]]⟩
     refine EvL.rounds (α:=Int) T304 (fun n a=>zco x20 p0 n a=some o287) ((x20.rows.length:Int) - 0+2:Int).toNat 0 (by rw[hT304]; exact wm0 [.k,.k] ⟨MB.cs ⟨qdc,qdc,qdc⟩,⟨MB.cs ⟨qdc,qdc,qdc,qdc⟩,qdc⟩⟩) j287 (fun _ h=>nomatch (show(none:Option (Out Unit Bool))=some o287 from h)) ?_;rintro n v8 j287;simp only[zco]at j287;rw[congrFun hT304 v8];refine zab ?_;try simp only[rnA,Nat.reduceEqDiff,Nat.reduceLT,zam]
     cases c27:(decide (v8<(x20.rows.length:Int)))
     ·rw[c27,cond_false]at j287;try simp only[rnA,Nat.reduceEqDiff,Nat.reduceLT]
      replace j287:=qac j287; subst j287;exact lfj hT287 rfl (wm0 [.k] ⟨MB.cs ⟨qdc,qdc,qdc⟩,qdc⟩)
     rw[c27,cond_true]at j287;obtain⟨x28,g29,j287⟩:=bind_some j287;try simp only[rnA,Nat.reduceEqDiff,Nat.reduceLT,zak (n:=1) (e:=(eL (eI .i64))) rfl g29,zam]
     cases c30:((x28.length:Int)== x20.card)
     ·rw[c30,cond_false]at j287;try simp only[rnA,Nat.reduceLT]
      replace j287:=qac j287; subst j287;dsimp only at j161;replace j161:=qac j161; subst j161;dsimp only at h;replace h:=qac h; subst h;exact zbO.ret rfl (.lit _)
     rw[c30,cond_true]at j287;try simp only[rnA,Nat.reduceLT]
     obtain⟨o308,j308,j287⟩:=bind_some j287;obtain⟨T308,hT308⟩:=mkT fun a:Int=>⟨154,[(1,(.ptr 0 0)),(6,(dI v6)),(7,(.ptr 1 0)),(8,(dI v8)),(9,(dI a))],[.cells [(dI p0.grain),(fzE false zaa p0.nodes)],.cells [(dI x20.card),(fzE false (eI .i64) x20.parents),(fzE false (eL (eI .i64)) x20.rows)]]⟩
     refine EvL.jn T308 (fun a=>o308=.go a) ?_ ?_
     ·refine zab ?_;simp only[rnA];obtain⟨T311,hT311⟩:=mkT fun a:(Int×Int)=>⟨154,[(1,(.ptr 0 0)),(6,(dI v6)),(7,(.ptr 1 0)),(8,(dI v8)),(9,(dI a.1)),(10,(dI a.2))],[.cells [(dI p0.grain),(fzE false zaa p0.nodes)],.cells [(dI x20.card),(fzE false (eI .i64) x20.parents),(fzE false (eL (eI .i64)) x20.rows)]]⟩
      refine EvL.rounds (α:=(Int×Int)) T311 (fun n a=>zcg x28 p0 n a.1 a.2=some o308) ((x28.length:Int) - 0+2:Int).toNat (0,0) (by rw[hT311]; exact wm0 [.k,.k] ⟨MB.cs ⟨qdc,qdc,qdc⟩,⟨MB.cs ⟨qdc,qdc,qdc,qdc⟩,qdc⟩⟩) j308 (fun _ h=>nomatch (show(none:Option (Out Int Bool))=some o308 from h)) ?_;rintro n ⟨v9,v10⟩ j308;simp only[zcg]at j308;rw[congrFun hT311 (v9,v10)];refine zab ?_;try simp only[rnA,Nat.reduceEqDiff,Nat.reduceLT,zak (n:=1) (e:=(eL (eI .i64))) rfl g29,zam]
      cases c31:(decide (v10<(x28.length:Int)))
      ·rw[c31,cond_false]at j308;try simp only[rnA,Nat.reduceEqDiff,Nat.reduceLT]
       replace j308:=qac j308; subst j308;exact lfj hT308 rfl (wm0 [.k,.k] ⟨MB.cs ⟨qdc,qdc,qdc⟩,⟨MB.cs ⟨qdc,qdc,qdc,qdc⟩,qdc⟩⟩)
      rw[c31,cond_true]at j308;try simp only[rnA]
      obtain⟨o312,j312,j308⟩:=bind_some j308;obtain⟨T312,hT312⟩:=mkT fun a:Bool=>⟨154,[(1,(.ptr 0 0)),(6,(dI v6)),(7,(.ptr 1 0)),(8,(dI v8)),(9,(dI v9)),(10,(dI v10)),(139,(dB a))],[.cells [(dI p0.grain),(fzE false zaa p0.nodes)],.cells [(dI x20.card),(fzE false (eI .i64) x20.parents),(fzE false (eL (eI .i64)) x20.rows)]]⟩
      refine EvL.jn T312 (fun a=>a=o312) ?_ ?_
      ·refine zab ?_;obtain⟨x32,g33,j312⟩:=bind_some j312;try simp only[rnA,Nat.reduceEqDiff,Nat.reduceLT,zak (n:=1) (e:=(eL (eI .i64))) rfl g29,zak (n:=1) (e:=(eI .i64)) rfl g33]
       cases c34:(decide (x32<0))
       ·rw[c34,cond_false]at j312;try simp only[rnA,Nat.reduceEqDiff,Nat.reduceLT,zak (n:=1) (e:=(eL (eI .i64))) rfl g29,zak (n:=1) (e:=(eI .i64)) rfl g33]
        replace j312:=qac j312; subst j312;exact lfj hT312 rfl (wm0 [.k,.k] ⟨MB.cs ⟨qdc,qdc,qdc⟩,⟨MB.cs ⟨qdc,qdc,qdc,qdc⟩,qdc⟩⟩)
       rw[c34,cond_true]at j312;try simp only[rnA,Nat.reduceEqDiff,Nat.reduceLT]
       replace j312:=qac j312; subst j312;exact lfj hT312 rfl (wm0 [.k,.k] ⟨MB.cs ⟨qdc,qdc,qdc⟩,⟨MB.cs ⟨qdc,qdc,qdc,qdc⟩,qdc⟩⟩)
      rintro v139 rfl;rw[congrFun hT312 v139];refine zab ?_;try simp only[rnA,Nat.reduceEqDiff]
      cases c35:v139
      ·rw[c35,cond_false]at j308;obtain⟨x36,g37,j308⟩:=bind_some j308;try simp only[rnA,Nat.reduceEqDiff,Nat.reduceLT,zak (n:=1) (e:=(eL (eI .i64))) rfl g29,zak (n:=1) (e:=(eI .i64)) rfl g37]
       exact⟨((w64 (v9+x36)),(w64 (v10+1))),j308,by rw[hT311]; exact wm0 [.k,.k] ⟨MB.cs ⟨qdc,qdc,qdc⟩,⟨MB.cs ⟨qdc,qdc,qdc,qdc⟩,qdc⟩⟩⟩
      rw[c35,cond_true]at j308;try simp only[rnA,Nat.reduceLT]
      replace j308:=qac j308; subst j308;dsimp only at j287;replace j287:=qac j287; subst j287;dsimp only at j161;replace j161:=qac j161; subst j161;dsimp only at h;replace h:=qac h; subst h;exact zbO.ret rfl (.lit _)
     rintro v9 rfl;dsimp only at j287;rw[congrFun hT308 v9];refine zab ?_;try simp only[rnA,Nat.reduceEqDiff,Nat.reduceLT]
     cases c38:(v9 == p0.grain)
     ·rw[c38,cond_false]at j287;try simp only[rnA,Nat.reduceLT]
      replace j287:=qac j287; subst j287;dsimp only at j161;replace j161:=qac j161; subst j161;dsimp only at h;replace h:=qac h; subst h;exact zbO.ret rfl (.lit _)
     rw[c38,cond_true]at j287;try simp only[rnA,Nat.reduceEqDiff,Nat.reduceLT]
     exact⟨(w64 (v8+1)),j287,by rw[hT304]; exact wm0 [.k,.k] ⟨MB.cs ⟨qdc,qdc,qdc⟩,⟨MB.cs ⟨qdc,qdc,qdc,qdc⟩,qdc⟩⟩⟩
    rintro⟨⟩ rfl;dsimp only at j161;rw[congrFun hT287 ()];refine zab ?_;try simp only[rnA,Nat.reduceEqDiff,Nat.reduceLT]
    exact⟨(w64 (v6+1)),j161,by rw[hT262]; exact wm0 [.k] ⟨MB.cs ⟨qdc,qdc,qdc⟩,qdc⟩⟩
   rintro⟨⟩ rfl;dsimp only at h;rw[congrFun hT161 ()];refine zab ?_;try simp only[rnA,Nat.reduceLT]
   replace h:=qac h; subst h;exact zbO.ret rfl (.lit _)
  rw[c18,cond_true]at h;try simp only[rnA,Nat.reduceLT]
  replace h:=qac h; subst h;exact zbO.ret rfl (.lit _)
 rw[c4,cond_true]at h;try simp only[rnA,Nat.reduceLT]
 replace h:=qac h; subst h;exact zbO.ret rfl (.lit _)
def zeY(p0:S_api_Net)(p1:Int)(p2:(List Int)):Option (List Int):=
(zaP p0.nodes p1).bind fun x1=>
(zaG p0 p1).bind fun r3=>
(zeI p2 x1.parents).bind fun r5=>
(zd0 r3 r5).bind fun r7=>
(zaP x1.rows r7).bind fun x9=>
some x9
def zlv:C:=
 .seq (rg [oW 3 0,
 ⟨some 6,.mov (.c (.slice none 0 0)),none⟩])
 (.seq (.reg true true [oF 7 1 3,
 oL 8 7,
 oM 9 1,
 oI 10 3 8 9,
 oF 11 2 10,
 oL 12 11,
 oN 13 2 3,
 oM 14 1,
 oM 16 2,
 oF 17 1 3,
 oL 18 17,
 oM 19 1,
 oI 20 3 18 19,
 oF 21 1 20,
 oL 22 21,
 oV 15 83 13 14,
 oV 23 129 16 22,
 oV 24 132 15 23,
 oI 25 1 12 24,
 oL 26 25,
 oM 6 26])
 (.ret))
theorem zm1:zkn mC 86=some (27,zlv,[.tmp 6],false):=zb5 (by kernel_rfl)
theorem zoC{p0:S_api_Net}{p1:Int}{p2:(List Int)}{r:(List Int)}(h:zeY p0 p1 p2=some r):Lx.FnA mC 86 [(.agg [(dI p0.grain),(fzE false zaa p0.nodes)]),(dI p1),(fzE false (eI .i64) p2)] (fzE false (eI .i64) r):=by
 refine FnA.of zm1 (zbF rfl) (qaf rfl) ?_;unfold zeY at h;simp only[zlv,ze3];refine zab ?_;obtain⟨x1,g2,h⟩:=bind_some h;obtain⟨r3,g4,h⟩:=bind_some h;try simp only[rnA,Nat.reduceEqDiff,reduceIte,Nat.reduceLT,Nat.reduceAdd,Nat.reduceLeDiff,Nat.reduceMul,Nat.reduceSub,Int.reduceLE,Int.reduceLT,Int.reduceBEq,Nat.reduceBEq,reduceCtorEq,zad,za5,ze8,zak (n:=3) (e:=zaa) rfl g2]
 refine EvL.fn (zcZ g4) rfl rfl (.cons (.zc5 (.cons (.lit _) (.cons (zat _ _ (fun h=>nomatch h)) .nil))) (.cons (.lit _) .nil)) ?_;obtain⟨r5,g6,h⟩:=bind_some h;try simp only[rnA,Nat.reduceEqDiff,reduceIte,Nat.reduceLT,Nat.reduceAdd,Nat.reduceLeDiff,Nat.reduceMul,Nat.reduceSub,Int.reduceLE,Int.reduceLT,Int.reduceBEq,Nat.reduceBEq,reduceCtorEq,zad,za5]
 refine EvL.fn (zlp g6) rfl rfl (.cons (zat _ _ (fun h=>nomatch h)) (.cons (zat _ _ (fun h=>nomatch h)) .nil)) ?_;obtain⟨r7,g8,h⟩:=bind_some h;try simp only[rnA,Nat.reduceEqDiff,reduceIte,Nat.reduceLT,Nat.reduceAdd,Nat.reduceLeDiff,Nat.reduceMul,Nat.reduceSub,Int.reduceLE,Int.reduceLT,Int.reduceBEq,Nat.reduceBEq,reduceCtorEq,zad,za5]
 refine EvL.fn (zli g8) rfl rfl (.cons (zat _ _ (fun h=>nomatch h)) (.cons (zat _ _ (fun h=>nomatch h)) .nil)) ?_;obtain⟨x9,g10,h⟩:=bind_some h;try simp only[rnA,Nat.reduceEqDiff,reduceIte,Nat.reduceLT,Nat.reduceAdd,Nat.reduceLeDiff,Nat.reduceMul,Nat.reduceSub,Int.reduceLE,Int.reduceLT,Int.reduceBEq,Nat.reduceBEq,reduceCtorEq,zad,za5,zak (n:=1) (e:=(eL (eI .i64))) rfl g10]
 replace h:=qac h; subst h;exact zl3.ret rfl (zat _ _ (fun h=>nomatch h))
def zbM(p0:S_api_Net)(v4:Int):Nat→Int→(List Int)→(List Int)→Option ((List Int)×(List Int))
 | 0,_,_,_=>none
 | n+1,v6,l3,l4=>(
bif (decide (v6<(p0.nodes.length:Int)))then(
((bif (v6 == v4)then(
some true)
else(
(za6 p0).bind fun r4=>
(zaP r4 v4).bind fun x6=>
(zec x6 v6).bind fun r8=>
some r8):Option Bool)).bind fun v36=>
((bif v36 then(
(zcW 8 l3 [v6]).bind fun y11=>
(zaP p0.nodes v6).bind fun x13=>
(zcW 8 l4 [x13.card]).bind fun y15=>
some (y11,y15))
else(
some (l3,l4)):Option (((List Int)×(List Int))))).bind fun o=>match o with
|(l3',l4')=>(
zbM p0 v4 n (w64 (v6+1)) l3' l4'))
else(
some (l3,l4)))
def zb9(l3:(List Int))(r17:(List (List Int)))(v8:Int)(p0:S_api_Net):Nat→Int→(List Int)→Option (List Int)
 | 0,_,_=>none
 | n+1,v10,l6=>(
bif (decide (v10<((l3.length:Nat):Int)))then(
(zaP l3 v10).bind fun x23=>
(zaP r17 v8).bind fun x25=>
(zaP x25 v10).bind fun x27=>
(zaP l6 x23).bind fun x29=>
(zfP l6 x23 x27).bind fun y31=>
zb9 l3 r17 v8 p0 n (w64 (v10+1)) y31)
else(
some l6))
def zbL(r17:(List (List Int)))(p0:S_api_Net)(l3:(List Int))(v4:Int):Nat→Int→(List Int)→Option (List Int)
 | 0,_,_=>none
 | n+1,v8,l5=>(
bif (decide (v8<(r17.length:Int)))then(
(zfB 8 (p0.nodes.length:Int) 0).bind fun y20=>
((zb9 l3 r17 v8 p0 (((l3.length:Nat):Int) - 0+2:Int).toNat 0 y20:Option (List Int))).bind fun l6=>
(zaP l6 v4).bind fun x33=>
(zeY p0 v4 l6).bind fun r35=>
(zaP r35 x33).bind fun x37=>
(zcW 8 l5 [x37]).bind fun y39=>
zbL r17 p0 l3 v4 n (w64 (v8+1)) y39)
else(
some l5))
def zbN(N:Nat)(p0:S_api_Net):Nat→Int→(List S_api_Factor)→Option (List S_api_Factor)
 | 0,_,_=>none
 | n+1,v4,l1=>(
bif (decide (v4<(p0.nodes.length:Int)))then(
((zbM p0 v4 ((p0.nodes.length:Int) - 0+2:Int).toNat 0 [] []:Option (((List Int)×(List Int))))).bind fun o=>match o with
|(l3,l4)=>(
(ze9 N l4).bind fun r17=>
((zbL r17 p0 l3 v4 ((r17.length:Int) - 0+2:Int).toNat 0 []:Option (List Int))).bind fun l5=>
(zcW 72 l1 [(S_api_Factor.mk l3 l4 l5)]).bind fun y41=>
zbN N p0 n (w64 (v4+1)) y41))
else(
some l1))
def zc4(N:Nat)(p0:S_api_Net):Option (List S_api_Factor):=
((zbN N p0 ((p0.nodes.length:Int) - 0+2:Int).toNat 0 []:Option (List S_api_Factor))).bind fun l1=>
some l1
def zgt:C:=
 .seq (rg [oW 1 0,
 ⟨some 2,.mov (.c (.slice none 0 0)),none⟩])
 (.seq (rg [⟨some 3,.mov (.c (.slice none 0 0)),none⟩])
 (.seq (.seq (rg [oK 4 0])
 (.scope (.block 0 (.loop (.seq (.seq (rg [oM 11 4,
 oF 12 1 1,
 oL 13 12,
 oE 14 13,
 oB 15 .lss 11 14])
 (.cond (.s 15) (.skip)
 (.exit 0)))
 (.seq (.block 1 (.seq (rg [⟨some 5,.alloc [(.slice none 0 0),(.slice none 0 0),(.slice none 0 0)],none⟩])
 (.seq (.seq (rg [oK 6 0])
 (.scope (.block 2 (.loop (.seq (.seq (rg [oM 18 6,
 oF 19 1 1,
 oL 20 19,
 oE 21 20,
 oB 22 .lss 18 21])
 (.cond (.s 22) (.skip)
 (.exit 2)))
 (.seq (.block 3 (.seq (.scope (rg [oM 25 6,
 oM 26 4,
 oB 27 .eql 25 26,
 oM 28 27,
 ⟨some 29,.load (some 2) (.s 1),some (28,false)⟩,
 ⟨some 30,.call 81 [(.s 29)],some (28,false)⟩,
 oMg 31 4 28 false,
 ⟨some 32,.idxS 1 (.s 30) (.s 31),some (28,false)⟩,
 oLg 33 32 28 false,
 oMg 34 6 28 false,
 ⟨some 35,.call 84 [(.s 33),(.s 34)],some (28,false)⟩,
 oP 36 28 35]))
 (.scope (.cond (.s 36) (.seq (rg [oF 37 0 5,
 oL 38 37,
 oM 39 6,
 ⟨some 40,.bsl 1 1 [(.int .i64 0)] [(0,(.s 39))],none⟩,
 oT 41 1 8 38 40,
 oF 42 0 5,
 oS 1 42 41])
 (.reg true false [oF 43 1 5,
 oL 44 43,
 oF 45 1 1,
 oL 46 45,
 oM 47 6,
 oI 48 3 46 47,
 oF 49 0 48,
 oL 50 49,
 ⟨some 51,.bsl 1 1 [(.int .i64 0)] [(0,(.s 50))],none⟩,
 oT 52 1 8 44 51,
 oF 53 1 5,
 oS 1 53 52]))
 (.skip)))))
 (rg [oM 23 6,
 oD 24 .add 23 1,
 oM 6 24])))))))
 (.seq (rg [oF 54 1 5,
 oL 55 54,
 oU 56 85 55,
 oM 7 56])
 (.seq (.seq (rg [oK 8 0])
 (.scope (.block 4 (.loop (.seq (.seq (rg [oM 57 8,
 oM 58 7,
 oE 59 58,
 oB 60 .lss 57 59])
 (.cond (.s 60) (.skip)
 (.exit 4)))
 (.seq (.block 5 (.seq (rg [oF 63 1 1,
 oL 64 63,
 oE 65 64,
 ⟨some 66,.mk 1 8 [(.int .i64 0)] (.s 65) (.s 65),none⟩,
 oM 9 66])
 (.seq (.seq (rg [oK 10 0])
 (.scope (.block 6 (.loop (.seq (.seq (rg [oM 67 10,
 oF 68 0 5,
 oL 69 68,
 oE 70 69,
 oB 71 .lss 67 70])
 (.cond (.s 71) (.skip)
 (.exit 6)))
 (.seq (.block 7 (.reg true false [oM 74 9,
 oF 75 0 5,
 oL 76 75,
 oM 77 10,
 oI 78 1 76 77,
 oL 79 78,
 oM 80 7,
 oM 81 8,
 oI 82 1 80 81,
 oL 83 82,
 oM 84 10,
 oI 85 1 83 84,
 oL 86 85,
 oI 87 1 74 79,
 oS 1 87 86]))
 (rg [oM 72 10,
 oD 73 .add 72 1,
 oM 10 73])))))))
 (.reg true true [oF 88 2 5,
 oL 89 88,
 oN 90 2 1,
 oM 91 4,
 oM 92 9,
 oM 94 9,
 oM 95 4,
 oI 96 1 94 95,
 oL 97 96,
 ⟨some 93,.call 86 [(.s 90),(.s 91),(.s 92)],none⟩,
 oI 98 1 93 97,
 oL 99 98,
 ⟨some 100,.bsl 1 1 [(.int .i64 0)] [(0,(.s 99))],none⟩,
 oT 101 1 8 89 100,
 oF 102 2 5,
 oS 1 102 101]))))
 (rg [oM 61 8,
 oD 62 .add 61 1,
 oM 8 62])))))))
 (rg [oM 103 3,
 oN 104 3 5,
 ⟨some 105,.bsl 3 1 [(.slice none 0 0),(.slice none 0 0),(.slice none 0 0)] [(0,(.s 104))],none⟩,
 oT 106 3 72 103 105,
 oM 3 106]))))))
 (rg [oM 16 4,
 oD 17 .add 16 1,
 oM 4 17])))))))
 (.seq (rg [oM 107 3,
 oM 2 107])
 (.ret))))
theorem zhX:zkn mC 18=some (108,zgt,[.tmp 2],false):=zb5 (by kernel_rfl)
theorem zim{N:Nat}{p0:S_api_Net}{r:(List S_api_Factor)}(h:zc4 N p0=some r):Lx.Fn mC 18 [(.agg [(dI p0.grain),(fzE false zaa p0.nodes)])] (fzE true zae r):=by
 refine Fn.of zhX (zbF rfl) (qaf rfl) ?_;unfold zc4 at h;simp only[zgt,ze3];refine zab ?_;try simp only[rnA,Nat.reduceLT]
 obtain⟨o129,j129,h⟩:=bind_some h;obtain⟨T129,hT129⟩:=mkT fun a:(List S_api_Factor)=>⟨108,[(3,(.sl 1 0 3 a.length none a.length))],[.gone,.grow 3 (a.map (zae.c true))]⟩
 refine EvL.jn T129 (fun a=>a=o129) ?_ ?_
 ·refine zab ?_;simp only[rnA];obtain⟨T222,hT222⟩:=mkT fun a:(Int×(List S_api_Factor))=>⟨108,[(1,(.ptr 0 0)),(3,(.sl 1 0 3 a.2.length none a.2.length)),(4,(dI a.1))],[.cells [(dI p0.grain),(fzE false zaa p0.nodes)],.grow 3 (a.2.map (zae.c true))]⟩
  refine EvL.zdJ (zbx.ghost (n:=3) (k:=3) (by decide) rfl) ?_;refine EvL.rounds (α:=(Int×(List S_api_Factor))) T222 (fun n a=>zbN N p0 n a.1 a.2=some o129) ((p0.nodes.length:Int) - 0+2:Int).toNat (0,[]) (by rw[hT222]; exact wm0 [.k,.k] ⟨MB.cs ⟨qdc,qdc,qdc⟩,⟨MB.gs zae true [],qdc⟩⟩) j129 (fun _ h=>nomatch (show(none:Option (List S_api_Factor))=some o129 from h)) ?_;rintro n ⟨v4,l1⟩ j129;simp only[zbN]at j129;rw[congrFun hT222 (v4,l1)];refine zab ?_;try simp only[rnA,Nat.reduceEqDiff,Nat.reduceLT,zam]
  cases c1:(decide (v4<(p0.nodes.length:Int)))
  ·rw[c1,cond_false]at j129;try simp only[rnA]
   replace j129:=qac j129; subst j129;exact lfj hT129 rfl (wm0 [.d,.k] ⟨rfl,⟨MB.gs zae true l1,qdc⟩⟩)
  rw[c1,cond_true]at j129;try simp only[rnA,Nat.reduceLT,Nat.reduceAdd]
  obtain⟨o231,j231,j129⟩:=bind_some j129;obtain⟨T231,hT231⟩:=mkT fun a:((List Int)×(List Int))=>⟨108,[(1,(.ptr 0 0)),(3,(.sl 1 0 3 l1.length none l1.length)),(4,(dI v4)),(5,(.ptr 2 0))],[.cells [(dI p0.grain),(fzE false zaa p0.nodes)],.grow 3 (l1.map (zae.c true)),.cells [(.sl 3 0 1 a.1.length none a.1.length),(.sl 4 0 1 a.2.length none a.2.length),zbs],.grow 1 (a.1.map ((eI .i64).c true)),.grow 1 (a.2.map ((eI .i64).c true))]⟩
  refine EvL.jn T231 (fun a=>a=o231) ?_ ?_
  ·refine zab ?_;simp only[rnA];obtain⟨T238,hT238⟩:=mkT fun a:(Int×(List Int)×(List Int))=>⟨108,[(1,(.ptr 0 0)),(3,(.sl 1 0 3 l1.length none l1.length)),(4,(dI v4)),(5,(.ptr 2 0)),(6,(dI a.1))],[.cells [(dI p0.grain),(fzE false zaa p0.nodes)],.grow 3 (l1.map (zae.c true)),.cells [(.sl 3 0 1 a.2.1.length none a.2.1.length),(.sl 4 0 1 a.2.2.length none a.2.2.length),zbs],.grow 1 (a.2.1.map ((eI .i64).c true)),.grow 1 (a.2.2.map ((eI .i64).c true))]⟩
   refine EvL.zdJ (zbx.zeX (n:=1) (β:=2) (o:=0) (by decide) rfl rfl) ?_;refine EvL.zdJ (zbx.zeX (n:=1) (β:=2) (o:=1) (by decide) rfl rfl) ?_;refine EvL.rounds (α:=(Int×(List Int)×(List Int))) T238 (fun n a=>zbM p0 v4 n a.1 a.2.1 a.2.2=some o231) ((p0.nodes.length:Int) - 0+2:Int).toNat (0,[],[]) (by rw[hT238]; exact wm0 [.k,.k,.k,.k,.k] ⟨MB.cs ⟨qdc,qdc,qdc⟩,⟨MB.gs zae true l1,⟨MB.cs ⟨rfl,rfl,qdc,qdc⟩,⟨MB.gs (eI .i64) true [],⟨MB.gs (eI .i64) true [],qdc⟩⟩⟩⟩⟩) j231 (fun _ h=>nomatch (show(none:Option ((List Int)×(List Int)))=some o231 from h)) ?_;rintro n ⟨v6,l3,l4⟩ j231;simp only[zbM]at j231;rw[congrFun hT238 (v6,l3,l4)];refine zab ?_;try simp only[rnA,Nat.reduceEqDiff,Nat.reduceLT,zam]
   cases c2:(decide (v6<(p0.nodes.length:Int)))
   ·rw[c2,cond_false]at j231;try simp only[rnA,Nat.reduceEqDiff,Nat.reduceLT,reduceCtorEq]
    replace j231:=qac j231; subst j231;exact lfj hT231 rfl (wm0 [.k,.k,.k,.k,.k] ⟨MB.cs ⟨qdc,qdc,qdc⟩,⟨MB.gs zae true l1,⟨MB.cs ⟨rfl,rfl,qdc,qdc⟩,⟨MB.gs (eI .i64) true l3,⟨MB.gs (eI .i64) true l4,qdc⟩⟩⟩⟩⟩)
   rw[c2,cond_true]at j231;try simp only[rnA]
   obtain⟨o239,j239,j231⟩:=bind_some j231;obtain⟨T239,hT239⟩:=mkT fun a:Bool=>⟨108,[(1,(.ptr 0 0)),(3,(.sl 1 0 3 l1.length none l1.length)),(4,(dI v4)),(5,(.ptr 2 0)),(6,(dI v6)),(36,(dB a))],[.cells [(dI p0.grain),(fzE false zaa p0.nodes)],.grow 3 (l1.map (zae.c true)),.cells [(.sl 3 0 1 l3.length none l3.length),(.sl 4 0 1 l4.length none l4.length),zbs],.grow 1 (l3.map ((eI .i64).c true)),.grow 1 (l4.map ((eI .i64).c true))]⟩
   refine EvL.jn T239 (fun a=>a=o239) ?_ ?_
   ·refine zab ?_;try simp only[rnA,Nat.reduceEqDiff,Nat.reduceLT]
    cases c3:(v6 == v4)
    ·rw[c3,cond_false]at j239;obtain⟨r4,g5,j239⟩:=bind_some j239;try simp only[rnA,Nat.reduceEqDiff,Nat.reduceLT,Nat.reduceAdd,Nat.reduceLeDiff]
     refine EvL.fn (zeq g5) rfl rfl (.cons (.zc5 (.cons (.lit _) (.cons (zat _ _ (fun h=>nomatch h)) .nil))) .nil) ?_;obtain⟨x6,g7,j239⟩:=bind_some j239;obtain⟨r8,g9,j239⟩:=bind_some j239;try simp only[rnA,Nat.reduceEqDiff,Nat.reduceLT,zak (n:=1) (e:=(eI .u64)) rfl g7]
     refine EvL.fn (zhQ g9) rfl rfl (.cons (.lit _) (.cons (.lit _) .nil)) ?_;try simp only[rnA,Nat.reduceEqDiff,Nat.reduceLT]
     replace j239:=qac j239; subst j239;exact lfj hT239 rfl (wm0 [.k,.k,.k,.k,.k] ⟨MB.cs ⟨qdc,qdc,qdc⟩,⟨MB.gs zae true l1,⟨MB.cs ⟨rfl,rfl,qdc,qdc⟩,⟨MB.gs (eI .i64) true l3,⟨MB.gs (eI .i64) true l4,qdc⟩⟩⟩⟩⟩)
    rw[c3,cond_true]at j239;try simp only[rnA,Nat.reduceLT]
    refine EvL.skip rfl ?_;try simp only[rnA,Nat.reduceEqDiff,Nat.reduceLT]
    refine EvL.skip rfl ?_;try simp only[rnA,Nat.reduceEqDiff,Nat.reduceLT]
    replace j239:=qac j239; subst j239;exact lfj hT239 rfl (wm0 [.k,.k,.k,.k,.k] ⟨MB.cs ⟨qdc,qdc,qdc⟩,⟨MB.gs zae true l1,⟨MB.cs ⟨rfl,rfl,qdc,qdc⟩,⟨MB.gs (eI .i64) true l3,⟨MB.gs (eI .i64) true l4,qdc⟩⟩⟩⟩⟩)
   rintro v36 rfl;rw[congrFun hT239 v36];refine zab ?_;try simp only[rnA]
   obtain⟨o240,j240,j231⟩:=bind_some j231;obtain⟨T240,hT240⟩:=mkT fun a:((List Int)×(List Int))=>⟨108,[(1,(.ptr 0 0)),(3,(.sl 1 0 3 l1.length none l1.length)),(4,(dI v4)),(5,(.ptr 2 0)),(6,(dI v6))],[.cells [(dI p0.grain),(fzE false zaa p0.nodes)],.grow 3 (l1.map (zae.c true)),.cells [(.sl 3 0 1 a.1.length none a.1.length),(.sl 4 0 1 a.2.length none a.2.length),zbs],.grow 1 (a.1.map ((eI .i64).c true)),.grow 1 (a.2.map ((eI .i64).c true))]⟩
   refine EvL.jn T240 (fun a=>a=o240) ?_ ?_
   ·refine zab ?_;try simp only[rnA,Nat.reduceEqDiff]
    cases c10:v36
    ·rw[c10,cond_false]at j240;try simp only[rnA]
     replace j240:=qac j240; subst j240;exact lfj hT240 rfl (wm0 [.k,.k,.k,.k,.k] ⟨MB.cs ⟨qdc,qdc,qdc⟩,⟨MB.gs zae true l1,⟨MB.cs ⟨rfl,rfl,qdc,qdc⟩,⟨MB.gs (eI .i64) true l3,⟨MB.gs (eI .i64) true l4,qdc⟩⟩⟩⟩⟩)
    rw[c10,cond_true]at j240;obtain⟨y11,g12,j240⟩:=bind_some j240;obtain⟨x13,g14,j240⟩:=bind_some j240;obtain⟨y15,g16,j240⟩:=bind_some j240;try simp only[rnA,Nat.reduceEqDiff,Nat.reduceLT,Nat.reduceAdd,Nat.reduceLeDiff,zad,zbP g12,(show l3.length+1=y11.length from zbf g12),(show l3.map ((eI .i64).c true)++ [[(dI v6)]]=y11.map ((eI .i64).c true)from zbG g12 ((eI .i64).c true)),zak (n:=3) (e:=zaa) rfl g14,zbP g16,(show l4.length+1=y15.length from zbf g16),(show l4.map ((eI .i64).c true)++ [[(dI x13.card)]]=y15.map ((eI .i64).c true)from zbG g16 ((eI .i64).c true))]
    replace j240:=qac j240; subst j240;exact lfj hT240 rfl (wm0 [.k,.k,.k,.k,.k] ⟨MB.cs ⟨qdc,qdc,qdc⟩,⟨MB.gs zae true l1,⟨MB.cs ⟨rfl,rfl,qdc,qdc⟩,⟨MB.gs (eI .i64) true y11,⟨MB.gs (eI .i64) true y15,qdc⟩⟩⟩⟩⟩)
   rintro⟨l3',l4'⟩ rfl;dsimp only at j231;rw[congrFun hT240 (l3',l4')];refine zab ?_;try simp only[rnA,Nat.reduceEqDiff,Nat.reduceLT]
   exact⟨((w64 (v6+1)),l3',l4'),j231,by rw[hT238]; exact wm0 [.k,.k,.k,.k,.k] ⟨MB.cs ⟨qdc,qdc,qdc⟩,⟨MB.gs zae true l1,⟨MB.cs ⟨rfl,rfl,qdc,qdc⟩,⟨MB.gs (eI .i64) true l3',⟨MB.gs (eI .i64) true l4',qdc⟩⟩⟩⟩⟩⟩
  rintro⟨l3,l4⟩ rfl;dsimp only at j129;rw[congrFun hT231 (l3,l4)];refine zab ?_;obtain⟨r17,g18,j129⟩:=bind_some j129;try simp only[rnA,Nat.reduceEqDiff,Nat.reduceLT]
  refine EvL.fn (zo4 g18) rfl rfl (.cons (zal (e:=(eI .i64)) (t:=true) rfl (.inr rfl) rfl rfl (fun k h=>nomatch h) (fun h=>nomatch h)) .nil) ?_;try simp only[rnA,Nat.reduceEqDiff,Nat.reduceLT]
  obtain⟨o249,j249,j129⟩:=bind_some j129;obtain⟨T249,hT249⟩:=mkT fun a:(List Int)=>⟨108,[(1,(.ptr 0 0)),(3,(.sl 1 0 3 l1.length none l1.length)),(4,(dI v4)),(5,(.ptr 2 0))],[.cells [(dI p0.grain),(fzE false zaa p0.nodes)],.grow 3 (l1.map (zae.c true)),.cells [(.sl 3 0 1 l3.length none l3.length),(.sl 4 0 1 l4.length none l4.length),(.sl 5 0 1 a.length none a.length)],.grow 1 (l3.map ((eI .i64).c true)),.grow 1 (l4.map ((eI .i64).c true)),.grow 1 (a.map ((eI .i64).c true))]⟩
  refine EvL.jn T249 (fun a=>a=o249) ?_ ?_
  ·refine zab ?_;simp only[rnA];obtain⟨T256,hT256⟩:=mkT fun a:(Int×(List Int))=>⟨108,[(1,(.ptr 0 0)),(3,(.sl 1 0 3 l1.length none l1.length)),(4,(dI v4)),(5,(.ptr 2 0)),(7,(fzE true (eL (eI .i64)) r17)),(8,(dI a.1))],[.cells [(dI p0.grain),(fzE false zaa p0.nodes)],.grow 3 (l1.map (zae.c true)),.cells [(.sl 3 0 1 l3.length none l3.length),(.sl 4 0 1 l4.length none l4.length),(.sl 5 0 1 a.2.length none a.2.length)],.grow 1 (l3.map ((eI .i64).c true)),.grow 1 (l4.map ((eI .i64).c true)),.grow 1 (a.2.map ((eI .i64).c true))]⟩
   refine EvL.zdJ (zbx.zeX (n:=1) (β:=2) (o:=2) (by decide) rfl rfl) ?_;refine EvL.rounds (α:=(Int×(List Int))) T256 (fun n a=>zbL r17 p0 l3 v4 n a.1 a.2=some o249) ((r17.length:Int) - 0+2:Int).toNat (0,[]) (by rw[hT256]; exact wm0 [.k,.k,.k,.k,.k,.k] ⟨MB.cs ⟨qdc,qdc,qdc⟩,⟨MB.gs zae true l1,⟨MB.cs ⟨rfl,rfl,rfl,qdc⟩,⟨MB.gs (eI .i64) true l3,⟨MB.gs (eI .i64) true l4,⟨MB.gs (eI .i64) true [],qdc⟩⟩⟩⟩⟩⟩) j249 (fun _ h=>nomatch (show(none:Option (List Int))=some o249 from h)) ?_;rintro n ⟨v8,l5⟩ j249;simp only[zbL]at j249;rw[congrFun hT256 (v8,l5)];refine zab ?_;try simp only[rnA,Nat.reduceEqDiff,Nat.reduceLT,zam]
   cases c19:(decide (v8<(r17.length:Int)))
   ·rw[c19,cond_false]at j249;try simp only[rnA,Nat.reduceEqDiff,Nat.reduceLT,reduceCtorEq]
    replace j249:=qac j249; subst j249;exact lfj hT249 rfl (wm0 [.k,.k,.k,.k,.k,.k] ⟨MB.cs ⟨qdc,qdc,qdc⟩,⟨MB.gs zae true l1,⟨MB.cs ⟨rfl,rfl,rfl,qdc⟩,⟨MB.gs (eI .i64) true l3,⟨MB.gs (eI .i64) true l4,⟨MB.gs (eI .i64) true l5,qdc⟩⟩⟩⟩⟩⟩)
   rw[c19,cond_true]at j249;obtain⟨y20,g21,j249⟩:=bind_some j249;try simp only[rnA,Nat.reduceEqDiff,Nat.reduceLT,Nat.reduceAdd,zam,(za8 g21).1.1,(za8 g21).1.2,qce,(show List.replicate (Int.toNat (p0.nodes.length:Int)) [(dI 0)]=y20.map ((eI .i64).c true)from zdy g21 ((eI .i64).c true))]
   obtain⟨o257,j257,j249⟩:=bind_some j249;obtain⟨T257,hT257⟩:=mkT fun a:(List Int)=>⟨108,[(1,(.ptr 0 0)),(3,(.sl 1 0 3 l1.length none l1.length)),(4,(dI v4)),(5,(.ptr 2 0)),(7,(fzE true (eL (eI .i64)) r17)),(8,(dI v8)),(9,(.sl 6 0 1 (Int.toNat (p0.nodes.length:Int)) (some (Int.toNat (p0.nodes.length:Int))) (Int.toNat (p0.nodes.length:Int))))],[.cells [(dI p0.grain),(fzE false zaa p0.nodes)],.grow 3 (l1.map (zae.c true)),.cells [(.sl 3 0 1 l3.length none l3.length),(.sl 4 0 1 l4.length none l4.length),(.sl 5 0 1 l5.length none l5.length)],.grow 1 (l3.map ((eI .i64).c true)),.grow 1 (l4.map ((eI .i64).c true)),.grow 1 (l5.map ((eI .i64).c true)),.els 1 (a.map ((eI .i64).c true))]⟩
   refine EvL.jn T257 (fun a=>a=o257∧a.length=(Int.toNat (p0.nodes.length:Int))) ?_ ?_
   ·refine zab ?_;simp only[rnA];obtain⟨T258,hT258⟩:=mkT fun a:(Int×(List Int))=>⟨108,[(1,(.ptr 0 0)),(3,(.sl 1 0 3 l1.length none l1.length)),(4,(dI v4)),(5,(.ptr 2 0)),(7,(fzE true (eL (eI .i64)) r17)),(8,(dI v8)),(9,(.sl 6 0 1 (Int.toNat (p0.nodes.length:Int)) (some (Int.toNat (p0.nodes.length:Int))) (Int.toNat (p0.nodes.length:Int)))),(10,(dI a.1))],[.cells [(dI p0.grain),(fzE false zaa p0.nodes)],.grow 3 (l1.map (zae.c true)),.cells [(.sl 3 0 1 l3.length none l3.length),(.sl 4 0 1 l4.length none l4.length),(.sl 5 0 1 l5.length none l5.length)],.grow 1 (l3.map ((eI .i64).c true)),.grow 1 (l4.map ((eI .i64).c true)),.grow 1 (l5.map ((eI .i64).c true)),.els 1 (a.2.map ((eI .i64).c true))]⟩
    refine EvL.rounds (α:=(Int×(List Int))) T258 (fun n a=>zb9 l3 r17 v8 p0 n a.1 a.2=some o257∧a.2.length=(Int.toNat (p0.nodes.length:Int))) (((l3.length:Nat):Int) - 0+2:Int).toNat (0,y20) (by rw[hT258]; exact wm0 [.k,.k,.k,.k,.k,.k,.k] ⟨MB.cs ⟨qdc,qdc,qdc⟩,⟨MB.gs zae true l1,⟨MB.cs ⟨rfl,rfl,rfl,qdc⟩,⟨MB.gs (eI .i64) true l3,⟨MB.gs (eI .i64) true l4,⟨MB.gs (eI .i64) true l5,⟨MB.es (eI .i64) true y20,qdc⟩⟩⟩⟩⟩⟩⟩) ⟨j257,zcl g21⟩ (fun _ h=>nomatch (show(none:Option (List Int))=some o257 from h.1)) ?_;rintro n ⟨v10,l6⟩ ⟨j257,el6⟩;simp only[zb9]at j257;rw[congrFun hT258 (v10,l6)];refine zab ?_;try simp only[rnA,Nat.reduceEqDiff,Nat.reduceLT]
    cases c22:(decide (v10<((l3.length:Nat):Int)))
    ·rw[c22,cond_false]at j257;try simp only[rnA,Nat.reduceEqDiff,Nat.reduceLT,reduceCtorEq]
     replace j257:=qac j257; subst j257;exact⟨_,⟨rfl,el6⟩,by rw[hT257]; exact wm0 [.k,.k,.k,.k,.k,.k,.k] ⟨MB.cs ⟨qdc,qdc,qdc⟩,⟨MB.gs zae true l1,⟨MB.cs ⟨rfl,rfl,rfl,qdc⟩,⟨MB.gs (eI .i64) true l3,⟨MB.gs (eI .i64) true l4,⟨MB.gs (eI .i64) true l5,⟨MB.es (eI .i64) true l6,qdc⟩⟩⟩⟩⟩⟩⟩⟩
    rw[c22,cond_true]at j257;obtain⟨x23,g24,j257⟩:=bind_some j257;obtain⟨x25,g26,j257⟩:=bind_some j257;obtain⟨x27,g28,j257⟩:=bind_some j257;obtain⟨x29,g30,j257⟩:=bind_some j257;obtain⟨y31,g32,j257⟩:=bind_some j257;try simp only[rnA,Nat.reduceEqDiff,Nat.reduceLT,Nat.reduceLeDiff,zbk g24,(show v10<((l3.length:Nat):Int)from zbD g24),zaZ g24 ((eI .i64).c true),zak (n:=1) (e:=(eL (eI .i64))) rfl g26,zak (n:=1) (e:=(eI .i64)) rfl g28,el6,zbk g30,(show x23<(((Int.toNat (p0.nodes.length:Int)):Nat):Int)from el6 ▸ zbD g30),zaZ g30 ((eI .i64).c true),(show(l6.map ((eI .i64).c true)).set x23.toNat [(dI x27)]=y31.map ((eI .i64).c true)from zb1 g32 ((eI .i64).c true))]
    exact⟨((w64 (v10+1)),y31),⟨j257,(zbd g32).trans el6⟩,by rw[hT258]; exact wm0 [.k,.k,.k,.k,.k,.k,.k] ⟨MB.cs ⟨qdc,qdc,qdc⟩,⟨MB.gs zae true l1,⟨MB.cs ⟨rfl,rfl,rfl,qdc⟩,⟨MB.gs (eI .i64) true l3,⟨MB.gs (eI .i64) true l4,⟨MB.gs (eI .i64) true l5,⟨MB.es (eI .i64) true y31,qdc⟩⟩⟩⟩⟩⟩⟩⟩
   rintro l6 ⟨rfl,el6⟩;rw[congrFun hT257 l6];refine zab ?_;obtain⟨x33,g34,j249⟩:=bind_some j249;try simp only[rnA,Nat.reduceEqDiff,Nat.reduceLT,Nat.reduceAdd,Nat.reduceLeDiff,el6,zbk g34,(show v4<(((Int.toNat (p0.nodes.length:Int)):Nat):Int)from el6 ▸ zbD g34),zaZ g34 ((eI .i64).c true)]
   refine EvL.zdJ (S':=⟨108,[(1,(.ptr 0 0)),(3,(.sl 1 0 3 l1.length none l1.length)),(4,(dI v4)),(5,(.ptr 2 0)),(7,(fzE true (eL (eI .i64)) r17)),(8,(dI v8)),(89,(.sl 5 0 1 l5.length none l5.length)),(90,(.agg [(dI p0.grain),(fzE false zaa p0.nodes)])),(91,(dI v4)),(92,(fzE true (eI .i64) l6)),(97,(dI x33))],[.cells [(dI p0.grain),(fzE false zaa p0.nodes)],.grow 3 (l1.map (zae.c true)),.cells [(.sl 3 0 1 l3.length none l3.length),(.sl 4 0 1 l4.length none l4.length),(.sl 5 0 1 l5.length none l5.length)],.grow 1 (l3.map ((eI .i64).c true)),.grow 1 (l4.map ((eI .i64).c true)),.grow 1 (l5.map ((eI .i64).c true))]⟩) (zbx.m0 [.k,.k,.k,.k,.k,.k,.f] rfl (msq (msq (msq (msq (msq (msq (msq (ms rfl ⟨qdc,qdc,qdc⟩ (msq (mf rfl (zc8 (e:=(eI .i64)) (t:=true) rfl rfl (.inl rfl) (el6).symm (el6).symm (fun k h=>by cases h; exact qaj _) (fun h=>by cases h<;>rfl)) (msq trivial))))))))))) ⟨MB.cs ⟨qdc,qdc,qdc⟩,⟨MB.gs zae true l1,⟨MB.cs ⟨rfl,rfl,rfl,qdc⟩,⟨MB.gs (eI .i64) true l3,⟨MB.gs (eI .i64) true l4,⟨MB.gs (eI .i64) true l5,qdc⟩⟩⟩⟩⟩⟩) (zab ?_);obtain⟨r35,g36,j249⟩:=bind_some j249;try simp only[rnA]
   refine EvL.fnS (zoC g36) rfl rfl (.cons (Mzs.agg (.cons (.lit _) (.cons (zen _ _ (fun h=>by cases h<;>contradiction)) .nil))) (.cons (.lit _) (.cons (zen _ _ (fun h=>by cases h<;>contradiction)) .nil))) ⟨⟨qdc,(zcu _ _),qdc⟩,qdc,(zcu _ _),qdc⟩ (zcu _ _) ?_;obtain⟨x37,g38,j249⟩:=bind_some j249;obtain⟨y39,g40,j249⟩:=bind_some j249;try simp only[rnA,Nat.reduceEqDiff,Nat.reduceLT,Nat.reduceAdd,Nat.reduceLeDiff,zak (n:=1) (e:=(eI .i64)) rfl g38,zbP g40,(show l5.length+1=y39.length from zbf g40),(show l5.map ((eI .i64).c true)++ [[(dI x37)]]=y39.map ((eI .i64).c true)from zbG g40 ((eI .i64).c true))]
   exact⟨((w64 (v8+1)),y39),j249,by rw[hT256]; exact wm0 [.k,.k,.k,.k,.k,.k] ⟨MB.cs ⟨qdc,qdc,qdc⟩,⟨MB.gs zae true l1,⟨MB.cs ⟨rfl,rfl,rfl,qdc⟩,⟨MB.gs (eI .i64) true l3,⟨MB.gs (eI .i64) true l4,⟨MB.gs (eI .i64) true y39,qdc⟩⟩⟩⟩⟩⟩⟩
  rintro l5 rfl;rw[congrFun hT249 l5];refine zab ?_;obtain⟨y41,g42,j129⟩:=bind_some j129;try simp only[rnA,Nat.reduceEqDiff,Nat.reduceLT,Nat.reduceAdd,Nat.reduceLeDiff,zbP g42,(show l1.length+1=y41.length from zbf g42)]
  exact⟨((w64 (v4+1)),y41),j129,by rw[hT222]; exact wm0 [.k,.k,.d,.f,.f,.f] ⟨MB.cs ⟨qdc,qdc,qdc⟩,⟨MB.zaT (zq0 (e:=zae) (t:=true) g42 (.cons (.cons (.fr (zc8 (e:=(eI .i64)) (t:=true) rfl rfl (.inr rfl) rfl rfl (fun k h=>nomatch h) (fun h=>by cases h<;>rfl))) (.cons (.fr (zc8 (e:=(eI .i64)) (t:=true) rfl rfl (.inr rfl) rfl rfl (fun k h=>nomatch h) (fun h=>by cases h<;>rfl))) (.cons (.fr (zc8 (e:=(eI .i64)) (t:=true) rfl rfl (.inr rfl) rfl rfl (fun k h=>nomatch h) (fun h=>by cases h<;>rfl))) .nil))) .nil)),qdc⟩⟩⟩
 rintro l1 rfl;rw[congrFun hT129 l1];refine zab ?_;try simp only[rnA,Nat.reduceEqDiff,Nat.reduceLT]
 replace h:=qac h; subst h;exact zbO.ret rfl (zal (e:=zae) (t:=true) rfl (.inr rfl) rfl rfl (fun k h=>nomatch h) (fun _=>rfl))
end Go.Dc
