/-
 What r05_Right computes. Conditions: none.
-/
import Derived.Test.YtifdmgbehogecaaNhJ4
set_option linter.unusedSimpArgs false
set_option linter.unusedVariables false
set_option maxRecDepth 100000
set_option maxHeartbeats 4000000
namespace Go.Dc
open Go Go.Mx Go.Lx Go.Proofs
def zbJ(p0:S_api_Net):Nat→Int→Int→Option (Out Int Bool)
 | 0,_,_=>none
 | n+1,v3,v4=>(
bif (decide (v4<(p0.nodes.length:Int)))then(
(zaK p0.nodes v4).bind fun x6=>
((bif (decide (x6.card<1))then(
some true)
else(
bif (decide (4<x6.card))then(
some true)
else(
(zdo x6.parents (p0.nodes.length:Int)).bind fun r10=>
some (!r10))):Option Bool)).bind fun v59=>
bif v59 then(
some (.ret false))
else(
zbJ p0 n (w64 (v3 * x6.card)) (w64 (v4+1))))
else(
some (.go v3)))
def zcd(x28:(List Int))(p0:S_api_Net):Nat→Int→Int→Option (Out Int Bool)
 | 0,_,_=>none
 | n+1,v9,v10=>(
bif (decide (v10<(x28.length:Int)))then(
(((zaK x28 v10).bind fun x32=>
bif (decide (x32<0))then(
some true)
else(
some (decide (p0.grain<x32))):Option Bool)).bind fun v139=>
bif v139 then(
some (.ret false))
else(
(zaK x28 v10).bind fun x36=>
zcd x28 p0 n (w64 (v9+x36)) (w64 (v10+1))))
else(
some (.go v9)))
def zb8(x20:S_api_Node)(p0:S_api_Net):Nat→Int→Option (Out Unit Bool)
 | 0,_=>none
 | n+1,v8=>(
bif (decide (v8<(x20.rows.length:Int)))then(
(zaK x20.rows v8).bind fun x28=>
bif ((x28.length:Int)== x20.card)then(
((zcd x28 p0 ((x28.length:Int) - 0+2:Int).toNat 0 0:Option (Out Int Bool))).bind fun o=>match o with
| .go v9=>(
bif (v9 == p0.grain)then(
zb8 x20 p0 n (w64 (v8+1)))
else(
some (.ret false)))
| .ret r=>some (.ret r))
else(
some (.ret false)))
else(
some (.go ())))
def zb9(p0:S_api_Net):Nat→Int→Option (Out Unit Bool)
 | 0,_=>none
 | n+1,v6=>(
bif (decide (v6<(p0.nodes.length:Int)))then(
(zaK p0.nodes v6).bind fun x20=>
(zaI p0 v6).bind fun r22=>
(zdz r22).bind fun r24=>
bif ((x20.rows.length:Int)== r24)then(
((zb8 x20 p0 ((x20.rows.length:Int) - 0+2:Int).toNat 0:Option (Out Unit Bool))).bind fun o=>match o with
| .go _=>(
zb9 p0 n (w64 (v6+1)))
| .ret r=>some (.ret r))
else(
some (.ret false)))
else(
some (.go ())))
def zcv(p0:S_api_Net):Option Bool:=
((bif (decide (p0.grain<1))then(
some true)
else(
bif (decide (60<p0.grain))then(
some true)
else(
bif (decide ((p0.nodes.length:Int)<1))then(
some true)
else(
some (decide (8<(p0.nodes.length:Int)))))):Option Bool)).bind fun v30=>
bif v30 then(
some false)
else(
((zbJ p0 ((p0.nodes.length:Int) - 0+2:Int).toNat 1 0:Option (Out Int Bool))).bind fun o=>match o with
| .go v3=>(
((bif (decide (1024<v3))then(
some true)
else(
(za6 p0).bind fun r14=>
(zcf r14).bind fun r16=>
some (!r16)):Option Bool)).bind fun v71=>
bif v71 then(
some false)
else(
((zb9 p0 ((p0.nodes.length:Int) - 0+2:Int).toNat 0:Option (Out Unit Bool))).bind fun o=>match o with
| .go _=>(
some true)
| .ret r=>some r))
| .ret r=>some r)
def zgS:C:=
 .seq (rg [oW 1 0,
 oJ 2 false])
 (.seq (.seq (.scope (rg [oF 11 0 1,
 oL 12 11,
 oD 13 .lss 12 1,
 oM 14 13,
 oFg 15 0 1 14 false,
 oLg 16 15 14 false,
 oDg 17 .gtr 16 60 14 false,
 oP 18 14 17,
 oM 19 18,
 oFg 20 1 1 19 false,
 oLg 21 20 19 false,
 ⟨some 22,.len (.s 21),some (19,false)⟩,
 oDg 23 .lss 22 1 19 false,
 oP 24 19 23,
 oM 25 24,
 oFg 26 1 1 25 false,
 oLg 27 26 25 false,
 ⟨some 28,.len (.s 27),some (25,false)⟩,
 oDg 29 .gtr 28 8 25 false,
 oP 30 25 29]))
 (.cond (.s 30) (.seq (rg [oJ 2 false])
 (.ret))
 (.skip)))
 (.seq (rg [oK 3 1])
 (.seq (.seq (rg [oK 4 0])
 (.scope (.block 0 (.loop (.seq (.seq (rg [oM 31 4,
 oF 32 1 1,
 oL 33 32,
 oE 34 33,
 oB 35 .lss 31 34])
 (.cond (.s 35) (.skip)
 (.exit 0)))
 (.seq (.block 1 (.seq (rg [oF 38 1 1,
 oL 39 38,
 oM 40 4,
 oI 41 3 39 40,
 oN 42 3 41,
 ⟨some 5,.alloc [(.int .i64 0),(.slice none 0 0),(.slice none 0 0)],none⟩,
 oS 3 5 42])
 (.seq (.seq (.scope (rg [oF 43 0 5,
 oL 44 43,
 oD 45 .lss 44 1,
 oM 46 45,
 oFg 47 0 5 46 false,
 oLg 48 47 46 false,
 oDg 49 .gtr 48 4 46 false,
 oP 50 46 49,
 oM 51 50,
 oFg 52 1 5 51 false,
 oLg 53 52 51 false,
 oFg 54 1 1 51 false,
 oLg 55 54 51 false,
 ⟨some 56,.len (.s 55),some (51,false)⟩,
 ⟨some 57,.call 49 [(.s 53),(.s 56)],some (51,false)⟩,
 ⟨some 58,.un .not (.s 57),some (51,false)⟩,
 oP 59 51 58]))
 (.cond (.s 59) (.seq (rg [oJ 2 false])
 (.ret))
 (.skip)))
 (rg [oM 60 3,
 oF 61 0 5,
 oL 62 61,
 oB 63 .mul 60 62,
 oM 3 63]))))
 (rg [oM 36 4,
 oD 37 .add 36 1,
 oM 4 37])))))))
 (.seq (.seq (.scope (rg [oM 64 3,
 oD 65 .gtr 64 1024,
 oM 66 65,
 ⟨some 67,.load (some 2) (.s 1),some (66,false)⟩,
 ⟨some 68,.call 22 [(.s 67)],some (66,false)⟩,
 ⟨some 69,.call 50 [(.s 68)],some (66,false)⟩,
 ⟨some 70,.un .not (.s 69),some (66,false)⟩,
 oP 71 66 70]))
 (.cond (.s 71) (.seq (rg [oJ 2 false])
 (.ret))
 (.skip)))
 (.seq (.seq (rg [oK 6 0])
 (.scope (.block 2 (.loop (.seq (.seq (rg [oM 72 6,
 oF 73 1 1,
 oL 74 73,
 oE 75 74,
 oB 76 .lss 72 75])
 (.cond (.s 76) (.skip)
 (.exit 2)))
 (.seq (.block 3 (.seq (rg [oF 79 1 1,
 oL 80 79,
 oM 81 6,
 oI 82 3 80 81,
 oN 83 3 82,
 ⟨some 7,.alloc [(.int .i64 0),(.slice none 0 0),(.slice none 0 0)],none⟩,
 oS 3 7 83])
 (.seq (.seq (.reg true true [oF 84 2 7,
 oL 85 84,
 oE 86 85,
 oN 87 2 1,
 oM 88 6,
 oV 89 52 87 88,
 oU 90 51 89,
 oB 91 .neq 86 90])
 (.cond (.s 91) (.seq (rg [oJ 2 false])
 (.ret))
 (.skip)))
 (.seq (rg [oK 8 0])
 (.scope (.block 4 (.loop (.seq (.seq (rg [oM 92 8,
 oF 93 2 7,
 oL 94 93,
 oE 95 94,
 oB 96 .lss 92 95])
 (.cond (.s 96) (.skip)
 (.exit 4)))
 (.seq (.block 5 (.seq (.seq (.reg true false [oF 99 2 7,
 oL 100 99,
 oM 101 8,
 oI 102 1 100 101,
 oL 103 102,
 oE 104 103,
 oF 105 0 7,
 oL 106 105,
 oB 107 .neq 104 106])
 (.cond (.s 107) (.seq (rg [oJ 2 false])
 (.ret))
 (.skip)))
 (.seq (rg [oK 9 0])
 (.seq (.seq (rg [oK 10 0])
 (.scope (.block 6 (.loop (.seq (.seq (rg [oM 108 10,
 oF 109 2 7,
 oL 110 109,
 oM 111 8,
 oI 112 1 110 111,
 oL 113 112,
 oE 114 113,
 oB 115 .lss 108 114])
 (.cond (.s 115) (.skip)
 (.exit 6)))
 (.seq (.block 7 (.seq (.seq (.scope (.reg true false [oF 118 2 7,
 oL 119 118,
 oM 120 8,
 oI 121 1 119 120,
 oL 122 121,
 oM 123 10,
 oI 124 1 122 123,
 oL 125 124,
 oD 126 .lss 125 0,
 oM 127 126,
 oFg 128 2 7 127 false,
 oLg 129 128 127 false,
 oMg 130 8 127 false,
 ⟨some 131,.idxS 1 (.s 129) (.s 130),some (127,false)⟩,
 oLg 132 131 127 false,
 oMg 133 10 127 false,
 ⟨some 134,.idxS 1 (.s 132) (.s 133),some (127,false)⟩,
 oLg 135 134 127 false,
 oFg 136 0 1 127 false,
 oLg 137 136 127 false,
 ⟨some 138,.bin .gtr (.s 135) (.s 137),some (127,false)⟩,
 oP 139 127 138]))
 (.cond (.s 139) (.seq (rg [oJ 2 false])
 (.ret))
 (.skip)))
 (rg [oM 140 9,
 oF 141 2 7,
 oL 142 141,
 oM 143 8,
 oI 144 1 142 143,
 oL 145 144,
 oM 146 10,
 oI 147 1 145 146,
 oL 148 147,
 oB 149 .add 140 148,
 oM 9 149])))
 (rg [oM 116 10,
 oD 117 .add 116 1,
 oM 10 117])))))))
 (.seq (rg [oM 150 9,
 oF 151 0 1,
 oL 152 151,
 oB 153 .neq 150 152])
 (.cond (.s 153) (.seq (rg [oJ 2 false])
 (.ret))
 (.skip)))))))
 (rg [oM 97 8,
 oD 98 .add 97 1,
 oM 8 98]))))))))))
 (rg [oM 77 6,
 oD 78 .add 77 1,
 oM 6 78])))))))
 (.seq (rg [oJ 2 true])
 (.ret)))))))
theorem zi9:zlk mC 7=some (154,zgS,[.tmp 2],false):=zcT (by kernel_rfl)
theorem zkk{p0:S_api_Net}{r:Bool}(h:zcv p0=some r):Lx.Fn mC 7 [(.agg [(dI p0.grain),(fzE false zaa p0.nodes)])] (dB r):=by
 refine Fn.of zi9 (zcq rfl) (qah rfl) ?_;unfold zcv at h;simp only[zgS,zfA];refine zab ?_;try simp only[rnA,Nat.reduceLT]
 obtain⟨o1,j1,h⟩:=bind_some h;obtain⟨T1,hT1⟩:=mkT fun a:Bool=>⟨154,[(1,(.ptr 0 0)),(30,(dB a))],[.cells [(dI p0.grain),(fzE false zaa p0.nodes)]]⟩
 refine EvL.jn T1 (fun a=>a=o1) ?_ ?_
 ·refine zab ?_;try simp only[rnA,Nat.reduceEqDiff,Nat.reduceLT,reduceCtorEq]
  cases c1:(decide (p0.grain<1))
  ·rw[c1,cond_false]at j1;try simp only[rnA,Nat.reduceEqDiff,Nat.reduceLT,reduceCtorEq]
   cases c2:(decide (60<p0.grain))
   ·rw[c2,cond_false]at j1;try simp only[rnA,Nat.reduceEqDiff,Nat.reduceLT,reduceCtorEq,zaj]
    cases c3:(decide ((p0.nodes.length:Int)<1))
    ·rw[c3,cond_false]at j1;try simp only[rnA,Nat.reduceEqDiff,Nat.reduceLT,reduceCtorEq,zaj]
     replace j1:=qab j1; subst j1;exact lfj hT1 rfl (wm0 [.k] ⟨MB.cs ⟨qcO,qcO,qcO⟩,qcO⟩)
    rw[c3,cond_true]at j1;try simp only[rnA,Nat.reduceEqDiff,Nat.reduceLT,reduceCtorEq]
    replace j1:=qab j1; subst j1;exact lfj hT1 rfl (wm0 [.k] ⟨MB.cs ⟨qcO,qcO,qcO⟩,qcO⟩)
   rw[c2,cond_true]at j1;try simp only[rnA,Nat.reduceEqDiff,Nat.reduceLT,reduceCtorEq]
   replace j1:=qab j1; subst j1;exact lfj hT1 rfl (wm0 [.k] ⟨MB.cs ⟨qcO,qcO,qcO⟩,qcO⟩)
  rw[c1,cond_true]at j1;try simp only[rnA,Nat.reduceEqDiff,Nat.reduceLT,reduceCtorEq]
  replace j1:=qab j1; subst j1;exact lfj hT1 rfl (wm0 [.k] ⟨MB.cs ⟨qcO,qcO,qcO⟩,qcO⟩)
 rintro v30 rfl;rw[congrFun hT1 v30];refine zab ?_;try simp only[rnA,Nat.reduceEqDiff]
 cases c4:v30
 ·rw[c4,cond_false]at h;try simp only[rnA,Nat.reduceLT]
  obtain⟨o5,j5,h⟩:=bind_some h;obtain⟨T5,hT5⟩:=mkT fun a:Int=>⟨154,[(1,(.ptr 0 0)),(3,(dI a))],[.cells [(dI p0.grain),(fzE false zaa p0.nodes)]]⟩
  refine EvL.jn T5 (fun a=>o5=.go a) ?_ ?_
  ·refine zab ?_;simp only[rnA];obtain⟨T8,hT8⟩:=mkT fun a:(Int×Int)=>⟨154,[(1,(.ptr 0 0)),(3,(dI a.1)),(4,(dI a.2))],[.cells [(dI p0.grain),(fzE false zaa p0.nodes)]]⟩
   refine EvL.rounds (α:=(Int×Int)) T8 (fun n a=>zbJ p0 n a.1 a.2=some o5) ((p0.nodes.length:Int) - 0+2:Int).toNat (1,0) (by rw[hT8]; exact wm0 [.k] ⟨MB.cs ⟨qcO,qcO,qcO⟩,qcO⟩) j5 (fun _ h=>nomatch (show(none:Option (Out Int Bool))=some o5 from h)) ?_;rintro n ⟨v3,v4⟩ j5;simp only[zbJ]at j5;rw[congrFun hT8 (v3,v4)];refine zab ?_;try simp only[rnA,Nat.reduceEqDiff,Nat.reduceLT,zaj]
   cases c5:(decide (v4<(p0.nodes.length:Int)))
   ·rw[c5,cond_false]at j5;try simp only[rnA]
    replace j5:=qab j5; subst j5;exact lfj hT5 rfl (wm0 [.k] ⟨MB.cs ⟨qcO,qcO,qcO⟩,qcO⟩)
   rw[c5,cond_true]at j5;obtain⟨x6,g7,j5⟩:=bind_some j5;try simp only[rnA,Nat.reduceEqDiff,Nat.reduceLT,Nat.reduceAdd,Nat.reduceLeDiff,zac,zak (n:=3) (e:=zaa) rfl g7]
   obtain⟨o9,j9,j5⟩:=bind_some j5;obtain⟨T9,hT9⟩:=mkT fun a:Bool=>⟨154,[(1,(.ptr 0 0)),(3,(dI v3)),(4,(dI v4)),(5,(.ptr 1 0)),(59,(dB a))],[.cells [(dI p0.grain),(fzE false zaa p0.nodes)],.cells [(dI x6.card),(fzE false (eI .i64) x6.parents),(fzE false (eL (eI .i64)) x6.rows)]]⟩
   refine EvL.jn T9 (fun a=>a=o9) ?_ ?_
   ·refine zab ?_;try simp only[rnA,Nat.reduceEqDiff,Nat.reduceLT]
    cases c8:(decide (x6.card<1))
    ·rw[c8,cond_false]at j9;try simp only[rnA,Nat.reduceEqDiff,Nat.reduceLT]
     cases c9:(decide (4<x6.card))
     ·rw[c9,cond_false]at j9;obtain⟨r10,g11,j9⟩:=bind_some j9;try simp only[rnA,Nat.reduceEqDiff,Nat.reduceLT,zaj]
      refine EvL.fn (ziR g11) rfl rfl (.cons (zar _ _ (fun h=>nomatch h)) (.cons (.lit _) .nil)) ?_;try simp only[rnA,Nat.reduceEqDiff,Nat.reduceLT]
      replace j9:=qab j9; subst j9;exact lfj hT9 rfl (wm0 [.k,.k] ⟨MB.cs ⟨qcO,qcO,qcO⟩,⟨MB.cs ⟨qcO,qcO,qcO,qcO⟩,qcO⟩⟩)
     rw[c9,cond_true]at j9;try simp only[rnA,Nat.reduceEqDiff,Nat.reduceLT]
     refine EvL.skip rfl ?_;try simp only[rnA,Nat.reduceEqDiff,Nat.reduceLT]
     replace j9:=qab j9; subst j9;exact lfj hT9 rfl (wm0 [.k,.k] ⟨MB.cs ⟨qcO,qcO,qcO⟩,⟨MB.cs ⟨qcO,qcO,qcO,qcO⟩,qcO⟩⟩)
    rw[c8,cond_true]at j9;try simp only[rnA,Nat.reduceEqDiff,Nat.reduceLT]
    refine EvL.skip rfl ?_;try simp only[rnA,Nat.reduceEqDiff,Nat.reduceLT]
    replace j9:=qab j9; subst j9;exact lfj hT9 rfl (wm0 [.k,.k] ⟨MB.cs ⟨qcO,qcO,qcO⟩,⟨MB.cs ⟨qcO,qcO,qcO,qcO⟩,qcO⟩⟩)
   rintro v59 rfl;rw[congrFun hT9 v59];refine zab ?_;try simp only[rnA,Nat.reduceEqDiff]
   cases c12:v59
   ·rw[c12,cond_false]at j5;try simp only[rnA,Nat.reduceEqDiff,Nat.reduceLT]
    exact⟨((w64 (v3 * x6.card)),(w64 (v4+1))),j5,by rw[hT8]; exact wm0 [.k] ⟨MB.cs ⟨qcO,qcO,qcO⟩,qcO⟩⟩
   rw[c12,cond_true]at j5;try simp only[rnA,Nat.reduceLT]
   replace j5:=qab j5; subst j5;dsimp only at h;replace h:=qab h; subst h;exact zbq.ret rfl (.lit _)
  rintro v3 rfl;dsimp only at h;rw[congrFun hT5 v3];refine zab ?_;try simp only[rnA]
  obtain⟨o10,j10,h⟩:=bind_some h;obtain⟨T10,hT10⟩:=mkT fun a:Bool=>⟨154,[(1,(.ptr 0 0)),(71,(dB a))],[.cells [(dI p0.grain),(fzE false zaa p0.nodes)]]⟩
  refine EvL.jn T10 (fun a=>a=o10) ?_ ?_
  ·refine zab ?_;try simp only[rnA,Nat.reduceEqDiff,Nat.reduceLT]
   cases c13:(decide (1024<v3))
   ·rw[c13,cond_false]at j10;obtain⟨r14,g15,j10⟩:=bind_some j10;try simp only[rnA,Nat.reduceEqDiff,Nat.reduceLT,Nat.reduceAdd,Nat.reduceLeDiff]
    refine EvL.fn (zeh g15) rfl rfl (.cons (.zcX (.cons (.lit _) (.cons (zar _ _ (fun h=>nomatch h)) .nil))) .nil) ?_;obtain⟨r16,g17,j10⟩:=bind_some j10;try simp only[rnA,Nat.reduceLT]
    refine EvL.fn (zhX g17) rfl rfl (.cons (zar _ _ (fun h=>nomatch h)) .nil) ?_;try simp only[rnA,Nat.reduceEqDiff,Nat.reduceLT]
    replace j10:=qab j10; subst j10;exact lfj hT10 rfl (wm0 [.k] ⟨MB.cs ⟨qcO,qcO,qcO⟩,qcO⟩)
   rw[c13,cond_true]at j10;try simp only[rnA,Nat.reduceLT]
   refine EvL.skip rfl ?_;try simp only[rnA,Nat.reduceLT]
   refine EvL.skip rfl ?_;try simp only[rnA,Nat.reduceEqDiff,Nat.reduceLT]
   replace j10:=qab j10; subst j10;exact lfj hT10 rfl (wm0 [.k] ⟨MB.cs ⟨qcO,qcO,qcO⟩,qcO⟩)
  rintro v71 rfl;rw[congrFun hT10 v71];refine zab ?_;try simp only[rnA,Nat.reduceEqDiff]
  cases c18:v71
  ·rw[c18,cond_false]at h;try simp only[rnA,Nat.reduceLT]
   obtain⟨o161,j161,h⟩:=bind_some h;obtain⟨T161,hT161⟩:=mkT fun a:Unit=>⟨154,[],[]⟩
   refine EvL.jn T161 (fun a=>o161=.go a) ?_ ?_
   ·refine zab ?_;simp only[rnA];obtain⟨T262,hT262⟩:=mkT fun a:Int=>⟨154,[(1,(.ptr 0 0)),(6,(dI a))],[.cells [(dI p0.grain),(fzE false zaa p0.nodes)]]⟩
    refine EvL.rounds (α:=Int) T262 (fun n a=>zb9 p0 n a=some o161) ((p0.nodes.length:Int) - 0+2:Int).toNat 0 (by rw[hT262]; exact wm0 [.k] ⟨MB.cs ⟨qcO,qcO,qcO⟩,qcO⟩) j161 (fun _ h=>nomatch (show(none:Option (Out Unit Bool))=some o161 from h)) ?_;rintro n v6 j161;simp only[zb9]at j161;rw[congrFun hT262 v6];refine zab ?_;try simp only[rnA,Nat.reduceEqDiff,Nat.reduceLT,zaj]
    cases c19:(decide (v6<(p0.nodes.length:Int)))
    ·rw[c19,cond_false]at j161;try simp only[rnA]
     replace j161:=qab j161; subst j161;exact lfj hT161 rfl (wm0 [] (by exact trivial))
    rw[c19,cond_true]at j161;obtain⟨x20,g21,j161⟩:=bind_some j161;obtain⟨r22,g23,j161⟩:=bind_some j161;try simp only[rnA,Nat.reduceEqDiff,Nat.reduceLT,Nat.reduceAdd,Nat.reduceLeDiff,zac,zak (n:=3) (e:=zaa) rfl g21,zaj]
    refine EvL.fn (zd4 g23) rfl rfl (.cons (.zcX (.cons (.lit _) (.cons (zar _ _ (fun h=>nomatch h)) .nil))) (.cons (.lit _) .nil)) ?_;obtain⟨r24,g25,j161⟩:=bind_some j161;try simp only[rnA,Nat.reduceLT]
    refine EvL.fn (zhs g25) rfl rfl (.cons (zar _ _ (fun h=>nomatch h)) .nil) ?_;try simp only[rnA,Nat.reduceEqDiff,Nat.reduceLT]
    cases c26:((x20.rows.length:Int)== r24)
    ·rw[c26,cond_false]at j161;try simp only[rnA,Nat.reduceLT]
     replace j161:=qab j161; subst j161;dsimp only at h;replace h:=qab h; subst h;exact zbq.ret rfl (.lit _)
    rw[c26,cond_true]at j161;try simp only[rnA,Nat.reduceLT]
    obtain⟨o287,j287,j161⟩:=bind_some j161;obtain⟨T287,hT287⟩:=mkT fun a:Unit=>⟨154,[(1,(.ptr 0 0)),(6,(dI v6))],[.cells [(dI p0.grain),(fzE false zaa p0.nodes)]]⟩
    refine EvL.jn T287 (fun a=>o287=.go a) ?_ ?_
    ·refine zab ?_;simp only[rnA];obtain⟨T304,hT304⟩:=mkT fun a:Int=>⟨154,[(1,(.ptr 0 0)),(6,(dI v6)),(7,(.ptr 1 0)),(8,(dI a))],[.cells [(dI p0.grain),(fzE false zaa p0.nodes)],.cells [(dI x20.card),(fzE false (eI .i64) x20.parents),(fzE false (eL (eI .i64)) x20.rows)]]⟩
     refine EvL.rounds (α:=Int) T304 (fun n a=>zb8 x20 p0 n a=some o287) ((x20.rows.length:Int) - 0+2:Int).toNat 0 (by rw[hT304]; exact wm0 [.k,.k] ⟨MB.cs ⟨qcO,qcO,qcO⟩,⟨MB.cs ⟨qcO,qcO,qcO,qcO⟩,qcO⟩⟩) j287 (fun _ h=>nomatch (show(none:Option (Out Unit Bool))=some o287 from h)) ?_;rintro n v8 j287;simp only[zb8]at j287;rw[congrFun hT304 v8];refine zab ?_;try simp only[rnA,Nat.reduceEqDiff,Nat.reduceLT,zaj]
     cases c27:(decide (v8<(x20.rows.length:Int)))
     ·rw[c27,cond_false]at j287;try simp only[rnA,Nat.reduceEqDiff,Nat.reduceLT]
      replace j287:=qab j287; subst j287;exact lfj hT287 rfl (wm0 [.k] ⟨MB.cs ⟨qcO,qcO,qcO⟩,qcO⟩)
     rw[c27,cond_true]at j287;obtain⟨x28,g29,j287⟩:=bind_some j287;try simp only[rnA,Nat.reduceEqDiff,Nat.reduceLT,zak (n:=1) (e:=(eL (eI .i64))) rfl g29,zaj]
     cases c30:((x28.length:Int)== x20.card)
     ·rw[c30,cond_false]at j287;try simp only[rnA,Nat.reduceLT]
      replace j287:=qab j287; subst j287;dsimp only at j161;replace j161:=qab j161; subst j161;dsimp only at h;replace h:=qab h; subst h;exact zbq.ret rfl (.lit _)
     rw[c30,cond_true]at j287;try simp only[rnA,Nat.reduceLT]
     obtain⟨o308,j308,j287⟩:=bind_some j287;obtain⟨T308,hT308⟩:=mkT fun a:Int=>⟨154,[(1,(.ptr 0 0)),(6,(dI v6)),(7,(.ptr 1 0)),(8,(dI v8)),(9,(dI a))],[.cells [(dI p0.grain),(fzE false zaa p0.nodes)],.cells [(dI x20.card),(fzE false (eI .i64) x20.parents),(fzE false (eL (eI .i64)) x20.rows)]]⟩
     refine EvL.jn T308 (fun a=>o308=.go a) ?_ ?_
     ·refine zab ?_;simp only[rnA];obtain⟨T311,hT311⟩:=mkT fun a:(Int×Int)=>⟨154,[(1,(.ptr 0 0)),(6,(dI v6)),(7,(.ptr 1 0)),(8,(dI v8)),(9,(dI a.1)),(10,(dI a.2))],[.cells [(dI p0.grain),(fzE false zaa p0.nodes)],.cells [(dI x20.card),(fzE false (eI .i64) x20.parents),(fzE false (eL (eI .i64)) x20.rows)]]⟩
      refine EvL.rounds (α:=(Int×Int)) T311 (fun n a=>zcd x28 p0 n a.1 a.2=some o308) ((x28.length:Int) - 0+2:Int).toNat (0,0) (by rw[hT311]; exact wm0 [.k,.k] ⟨MB.cs ⟨qcO,qcO,qcO⟩,⟨MB.cs ⟨qcO,qcO,qcO,qcO⟩,qcO⟩⟩) j308 (fun _ h=>nomatch (show(none:Option (Out Int Bool))=some o308 from h)) ?_;rintro n ⟨v9,v10⟩ j308;simp only[zcd]at j308;rw[congrFun hT311 (v9,v10)];refine zab ?_;try simp only[rnA,Nat.reduceEqDiff,Nat.reduceLT,zak (n:=1) (e:=(eL (eI .i64))) rfl g29,zaj]
      cases c31:(decide (v10<(x28.length:Int)))
      ·rw[c31,cond_false]at j308;try simp only[rnA,Nat.reduceEqDiff,Nat.reduceLT]
       replace j308:=qab j308; subst j308;exact lfj hT308 rfl (wm0 [.k,.k] ⟨MB.cs ⟨qcO,qcO,qcO⟩,⟨MB.cs ⟨qcO,qcO,qcO,qcO⟩,qcO⟩⟩)
      rw[c31,cond_true]at j308;try simp only[rnA]
      obtain⟨o312,j312,j308⟩:=bind_some j308;obtain⟨T312,hT312⟩:=mkT fun a:Bool=>⟨154,[(1,(.ptr 0 0)),(6,(dI v6)),(7,(.ptr 1 0)),(8,(dI v8)),(9,(dI v9)),(10,(dI v10)),(139,(dB a))],[.cells [(dI p0.grain),(fzE false zaa p0.nodes)],.cells [(dI x20.card),(fzE false (eI .i64) x20.parents),(fzE false (eL (eI .i64)) x20.rows)]]⟩
      refine EvL.jn T312 (fun a=>a=o312) ?_ ?_
      ·refine zab ?_;obtain⟨x32,g33,j312⟩:=bind_some j312;try simp only[rnA,Nat.reduceEqDiff,Nat.reduceLT,zak (n:=1) (e:=(eL (eI .i64))) rfl g29,zak (n:=1) (e:=(eI .i64)) rfl g33]
       cases c34:(decide (x32<0))
       ·rw[c34,cond_false]at j312;try simp only[rnA,Nat.reduceEqDiff,Nat.reduceLT,zak (n:=1) (e:=(eL (eI .i64))) rfl g29,zak (n:=1) (e:=(eI .i64)) rfl g33]
        replace j312:=qab j312; subst j312;exact lfj hT312 rfl (wm0 [.k,.k] ⟨MB.cs ⟨qcO,qcO,qcO⟩,⟨MB.cs ⟨qcO,qcO,qcO,qcO⟩,qcO⟩⟩)
       rw[c34,cond_true]at j312;try simp only[rnA,Nat.reduceEqDiff,Nat.reduceLT]
       replace j312:=qab j312; subst j312;exact lfj hT312 rfl (wm0 [.k,.k] ⟨MB.cs ⟨qcO,qcO,qcO⟩,⟨MB.cs ⟨qcO,qcO,qcO,qcO⟩,qcO⟩⟩)
      rintro v139 rfl;rw[congrFun hT312 v139];refine zab ?_;try simp only[rnA,Nat.reduceEqDiff]
      cases c35:v139
      ·rw[c35,cond_false]at j308;obtain⟨x36,g37,j308⟩:=bind_some j308;try simp only[rnA,Nat.reduceEqDiff,Nat.reduceLT,zak (n:=1) (e:=(eL (eI .i64))) rfl g29,zak (n:=1) (e:=(eI .i64)) rfl g37]
       exact⟨((w64 (v9+x36)),(w64 (v10+1))),j308,by rw[hT311]; exact wm0 [.k,.k] ⟨MB.cs ⟨qcO,qcO,qcO⟩,⟨MB.cs ⟨qcO,qcO,qcO,qcO⟩,qcO⟩⟩⟩
      rw[c35,cond_true]at j308;try simp only[rnA,Nat.reduceLT]
      replace j308:=qab j308; subst j308;dsimp only at j287;replace j287:=qab j287; subst j287;dsimp only at j161;replace j161:=qab j161; subst j161;dsimp only at h;replace h:=qab h; subst h;exact zbq.ret rfl (.lit _)
     rintro v9 rfl;dsimp only at j287;rw[congrFun hT308 v9];refine zab ?_;try simp only[rnA,Nat.reduceEqDiff,Nat.reduceLT]
     cases c38:(v9 == p0.grain)
     ·rw[c38,cond_false]at j287;try simp only[rnA,Nat.reduceLT]
      replace j287:=qab j287; subst j287;dsimp only at j161;replace j161:=qab j161; subst j161;dsimp only at h;replace h:=qab h; subst h;exact zbq.ret rfl (.lit _)
     rw[c38,cond_true]at j287;try simp only[rnA,Nat.reduceEqDiff,Nat.reduceLT]
     exact⟨(w64 (v8+1)),j287,by rw[hT304]; exact wm0 [.k,.k] ⟨MB.cs ⟨qcO,qcO,qcO⟩,⟨MB.cs ⟨qcO,qcO,qcO,qcO⟩,qcO⟩⟩⟩
    rintro⟨⟩ rfl;dsimp only at j161;rw[congrFun hT287 ()];refine zab ?_;try simp only[rnA,Nat.reduceEqDiff,Nat.reduceLT]
    exact⟨(w64 (v6+1)),j161,by rw[hT262]; exact wm0 [.k] ⟨MB.cs ⟨qcO,qcO,qcO⟩,qcO⟩⟩
   rintro⟨⟩ rfl;dsimp only at h;rw[congrFun hT161 ()];refine zab ?_;try simp only[rnA,Nat.reduceLT]
   replace h:=qab h; subst h;exact zbq.ret rfl (.lit _)
  rw[c18,cond_true]at h;try simp only[rnA,Nat.reduceLT]
  replace h:=qab h; subst h;exact zbq.ret rfl (.lit _)
 rw[c4,cond_true]at h;try simp only[rnA,Nat.reduceLT]
 replace h:=qab h; subst h;exact zbq.ret rfl (.lit _)
def zaP(p3:Int)(p5:Int)(x7:S_api_Net)(v22:(List Int))(v23:(List Int)):Nat→Bool→Int→Option (Out Bool Bool)
 | 0,_,_=>none
 | n+1,v21',v125=>(
bif (decide (v125<2))then(
(zaK [p3,(w64 (p5.tmod 5))] v125).bind fun x43=>
(za3 x7 x43).bind fun r45=>
((bif v21' then(
((bif (decide (x43<0))then(
some true)
else(
some (decide ((v22.length:Int)≤x43))):Option Bool)).bind fun v143=>
bif v143 then(
((bif (r45.1 == 0)then(
some (!(r45.2 == 2)))
else(
some true):Option Bool)).bind fun v157=>
bif v157 then(
some (.ret false))
else(
some (.go true)))
else(
(((zaK v23 x43).bind fun x52=>
bif (r45.1 == x52)then(
some (!(r45.2 == 0)))
else(
some true):Option Bool)).bind fun v158=>
bif v158 then(
some (.ret false))
else(
some (.go true))))
else(
((bif (r45.1 == 0)then(
some (!(r45.2 == 50)))
else(
some true):Option Bool)).bind fun v142=>
bif v142 then(
some (.ret false))
else(
some (.go false))):Option (Out Bool Bool))).bind fun o=>match o with
| .go v21''=>(
zaP p3 p5 x7 v22 v23 n v21'' (w64 (v125+1)))
| .ret r=>some (.ret r))
else(
some (.go v21')))
def zaO(N:Nat)(p4:Int)(q58:Int)(x7:S_api_Net)(v22:(List Int)):Nat→Bool→Int→Option (Out Unit Bool)
 | 0,_,_=>none
 | n+1,v21'',v178=>(
bif (decide (v178<2))then(
(zaK [p4,(zgv .u64 p4 (IntKind.u64.wrap (q58 - 1)))] v178).bind fun x61=>
(zaL N x7 x61).bind fun r63=>
(zaC N x7 x61).bind fun r65=>
((bif v21'' then(
(zit .u64 x61 (v22.length:Int)).bind fun q72=>
bif (q72 == 0)then(
(((zeu v22 x61).bind fun r79=>
bif (r63.1 == r79)then(
bif (r63.2 == 0)then(
(zdC v22 x61).bind fun r83=>
bif (r65.1 == r83)then(
some (!(r65.2 == 0)))
else(
some true))
else(
some true))
else(
some true):Option Bool)).bind fun v230=>
bif v230 then(
some (.ret false))
else(
some (.go true)))
else(
((bif (r63.1 == 0)then(
bif (r63.2 == 2)then(
bif (r65.1 == 0)then(
some (!(r65.2 == 2)))
else(
some true))
else(
some true))
else(
some true):Option Bool)).bind fun v229=>
bif v229 then(
some (.ret false))
else(
some (.go true))))
else(
((bif (r63.1 == 0)then(
bif (r63.2 == 50)then(
bif (r65.1 == 0)then(
some (!(r65.2 == 50)))
else(
some true))
else(
some true))
else(
some true):Option Bool)).bind fun v209=>
bif v209 then(
some (.ret false))
else(
some (.go false))):Option (Out Bool Bool))).bind fun o=>match o with
| .go v21'''=>(
zaO N p4 q58 x7 v22 n v21''' (w64 (v178+1)))
| .ret r=>some (.ret r))
else(
some (.go ())))
def zbA(N:Nat)(r4:A3_S_api_Net)(p3:Int)(p5:Int)(p4:Int):Nat→Int→Option (Out Unit Bool)
 | 0,_=>none
 | n+1,v40=>(
bif (decide (v40<3))then(
(zaK [r4.a0,r4.a1,r4.a2] v40).bind fun x7=>
(zbC x7).bind fun r9=>
(zcb x7).bind fun r11=>
(zb5 x7).bind fun r13=>
(zcv x7).bind fun r15=>
((bif r15 then(
(za6 x7).bind fun r24=>
(zc3 r24).bind fun r26=>
((bif (r9.2 == 0)then(
(zcK r9.1 r24).bind fun r29=>
bif r29 then(
bif (r11.2 == 0)then(
(zc8 r24).bind fun r33=>
(zdG r11.1 r33).bind fun r35=>
bif r35 then(
bif (r13.2 == 0)then(
(zcK r13.1 r26).bind fun r39=>
some (!r39))
else(
some true))
else(
some true))
else(
some true))
else(
some true))
else(
some true):Option Bool)).bind fun v119=>
bif v119 then(
some (.ret false))
else(
some (.go (true,r24,r26))))
else(
((bif ((r9.1.length:Int)== 0)then(
bif (r9.2 == 50)then(
bif ((r11.1.length:Int)== 0)then(
bif (r11.2 == 50)then(
bif ((r13.1.length:Int)== 0)then(
some (!(r13.2 == 50)))
else(
some true))
else(
some true))
else(
some true))
else(
some true))
else(
some true):Option Bool)).bind fun v86=>
bif v86 then(
some (.ret false))
else(
some (.go (false,[],[])))):Option (Out (Bool×(List Int)×(List Int)) Bool))).bind fun o=>match o with
| .go (v21,v22,v23)=>(
((zaP p3 p5 x7 v22 v23 (2 - 0+2:Int).toNat v21 0:Option (Out Bool Bool))).bind fun o=>match o with
| .go v21'=>(
(zhO .u64 1 (v22.length:Int)).bind fun q58=>
((zaO N p4 q58 x7 v22 (2 - 0+2:Int).toNat v21' 0:Option (Out Unit Bool))).bind fun o=>match o with
| .go _=>(
zbA N r4 p3 p5 p4 n (w64 (v40+1)))
| .ret r=>some (.ret r))
| .ret r=>some (.ret r))
| .ret r=>some (.ret r))
else(
some (.go ())))
def zcQ(N:Nat)(p0:S_api_Net)(p1:S_haruspexref05_Draft)(p2:S_haruspexref05_Bend)(p3:Int)(p4:Int)(p5:Int):Option Bool:=
(zly).bind fun r1=>
bif r1 then(
(zei N p0 p1 p2).bind fun r4=>
((zbA N r4 p3 p5 p4 (3 - 0+2:Int).toNat 0:Option (Out Unit Bool))).bind fun o=>match o with
| .go _=>(
some true)
| .ret r=>some r)
else(
some false)
theorem zgD{N:Nat}{p0:S_api_Net}{p1:S_haruspexref05_Draft}{p2:S_haruspexref05_Bend}{p3:Int}{p4:Int}{p5:Int}{r:Bool}(h:zcQ N p0 p1 p2 p3 p4 p5=some r):Lx.Fn mC 4 [(.agg [(dI p0.grain),(fzE false zaa p0.nodes)]),(.agg [(dU8 p1.grain),(fzE false zai p1.nodes),(fzE false (eI .u8) p1.order)]),(.agg [(dU8 p2.what),(dU8 p2.at_),(dU8 p2.row),(dI p2.n)]),(dI p3),(dU p4),(dU8 p5)] (dB r):=by
 refine fnO (by conv=>lhs; cbv) ?_;unfold zcQ at h;refine zab ?_;obtain⟨r1,g2,h⟩:=bind_some h;try simp only[rnA,Nat.reduceEqDiff,Nat.reduceLT,Nat.reduceAdd,reduceCtorEq]
 refine EvL.fn (zrv g2) rfl rfl .nil ?_;try simp only[rnA,Nat.reduceEqDiff,Nat.reduceLT,reduceCtorEq]
 cases c3:r1
 ·rw[c3,cond_false]at h;try simp only[rnA,Nat.reduceLT]
  replace h:=qab h; subst h;exact zbq.ret rfl (.lit _)
 rw[c3,cond_true]at h;obtain⟨r4,g5,h⟩:=bind_some h;try simp only[rnA,Nat.reduceEqDiff,Nat.reduceLT,Nat.reduceAdd,Nat.reduceLeDiff,reduceCtorEq]
 refine EvL.fnS (zlQ g5) rfl rfl (.cons (Mzs.agg (.cons (.lit _) (.cons (zdv _ _ (fun h=>by cases h<;>contradiction)) .nil))) (.cons (Mzs.agg (.cons (.lit _) (.cons (zdv _ _ (fun h=>by cases h<;>contradiction)) (.cons (zdv _ _ (fun h=>by cases h<;>contradiction)) .nil)))) (.cons (Mzs.agg (.cons (.lit _) (.cons (.lit _) (.cons (.lit _) (.cons (.lit _) .nil))))) .nil))) ⟨⟨qcO,(zaH _ _),qcO⟩,⟨qcO,(zaH _ _),(zaH _ _),qcO⟩,⟨qcO,qcO,qcO,qcO,qcO⟩,qcO⟩ ⟨qcO,(zaH _ _),qcO,(zaH _ _),qcO,(zaH _ _),qcO⟩ ?_;try simp only[rnA,Nat.reduceLT]
 obtain⟨o316,j316,h⟩:=bind_some h;obtain⟨T316,hT316⟩:=mkT fun a:Unit=>⟨253,[],[]⟩
 refine EvL.jn T316 (fun a=>o316=.go a) ?_ ?_
 ·refine zab ?_;simp only[rnA];obtain⟨T527,hT527⟩:=mkT fun a:Int=>⟨253,[(3,(dI p3)),(4,(dU p4)),(5,(dU8 p5)),(39,(.agg [(dI r4.a0.grain),(fzE false zaa r4.a0.nodes),(dI r4.a1.grain),(fzE false zaa r4.a1.nodes),(dI r4.a2.grain),(fzE false zaa r4.a2.nodes)])),(40,(dI a))],[]⟩
  refine EvL.rounds (α:=Int) T527 (fun n a=>zbA N r4 p3 p5 p4 n a=some o316) (3 - 0+2:Int).toNat 0 (by rw[hT527]; exact wm0 [] (by exact trivial)) j316 (fun _ h=>nomatch (show(none:Option (Out Unit Bool))=some o316 from h)) ?_;rintro n v40 j316;simp only[zbA]at j316;rw[congrFun hT527 v40];refine zab ?_;try simp only[rnA,Nat.reduceEqDiff,Nat.reduceLT]
  cases c6:(decide (v40<3))
  ·rw[c6,cond_false]at j316;try simp only[rnA]
   replace j316:=qab j316; subst j316;exact lfj hT316 rfl (wm0 [] (by exact trivial))
  rw[c6,cond_true]at j316;obtain⟨x7,g8,j316⟩:=bind_some j316;obtain⟨r9,g10,j316⟩:=bind_some j316;try simp only[rnA,Nat.reduceEqDiff,Nat.reduceLT,Nat.reduceAdd,Nat.reduceLeDiff,zbz g8,(show v40<((3:Nat):Int)from zbS g8),qbq,(show([(dI r4.a0.grain),(fzE false zaa r4.a0.nodes),(dI r4.a1.grain),(fzE false zaa r4.a1.nodes),(dI r4.a2.grain),(fzE false zaa r4.a2.nodes)].drop (v40.toNat * 2)).take 2=[(dI x7.grain),(fzE false zaa x7.nodes)]from zrP (e:=zcL) (t:=false) rfl g8 rfl),(show v40.toNat * 2+2≤6 from zu5 (e:=zcL) rfl g8)]
  refine EvL.fnS (zhQ g10) rfl rfl (.cons (Mzs.agg (.cons (.lit _) (.cons (zdv _ _ (fun h=>by cases h<;>contradiction)) .nil))) .nil) ⟨⟨qcO,(zaH _ _),qcO⟩,qcO⟩ ⟨(zaH _ _),qcO,qcO⟩ ?_;obtain⟨r11,g12,j316⟩:=bind_some j316;try simp only[rnA,Nat.reduceEqDiff,Nat.reduceLT,Nat.reduceAdd,Nat.reduceLeDiff]
  refine EvL.fnS (zj8 g12) rfl rfl (.cons (Mzs.agg (.cons (.lit _) (.cons (zdv _ _ (fun h=>by cases h<;>contradiction)) .nil))) .nil) ⟨⟨qcO,(zaH _ _),qcO⟩,qcO⟩ ⟨(zaH _ _),qcO,qcO⟩ ?_;obtain⟨r13,g14,j316⟩:=bind_some j316;try simp only[rnA,Nat.reduceEqDiff,Nat.reduceLT,Nat.reduceAdd,Nat.reduceLeDiff]
  refine EvL.fn (zki g14) rfl rfl (.cons (.zcX (.cons (.lit _) (.cons (zar _ _ (fun h=>nomatch h)) .nil))) .nil) ?_;obtain⟨r15,g16,j316⟩:=bind_some j316;try simp only[rnA,Nat.reduceEqDiff,Nat.reduceLT,Nat.reduceAdd,Nat.reduceLeDiff]
  refine EvL.fn (zkk g16) rfl rfl (.cons (.zcX (.cons (.lit _) (.cons (zar _ _ (fun h=>nomatch h)) .nil))) .nil) ?_;try simp only[rnA,Nat.reduceEqDiff,Nat.reduceLT]
  obtain⟨o530,j530,j316⟩:=bind_some j316;obtain⟨T530,hT530⟩:=mkT fun a:(Bool×(List Int)×(List Int))=>⟨253,[(3,(dI p3)),(4,(dU p4)),(5,(dU8 p5)),(14,(.ptr 0 0)),(21,(dB a.1)),(22,(fzE true (eI .u64) a.2.1)),(23,(fzE true (eI .u64) a.2.2)),(39,(.agg [(dI r4.a0.grain),(fzE false zaa r4.a0.nodes),(dI r4.a1.grain),(fzE false zaa r4.a1.nodes),(dI r4.a2.grain),(fzE false zaa r4.a2.nodes)])),(40,(dI v40))],[.cells [(dI x7.grain),(fzE false zaa x7.nodes)]]⟩
  refine EvL.jn T530 (fun a=>o530=.go a) ?_ ?_
  ·refine zab ?_;try simp only[rnA,Nat.reduceEqDiff]
   cases c17:r15
   ·rw[c17,cond_false]at j530;try simp only[rnA]
    obtain⟨o531,j531,j530⟩:=bind_some j530;obtain⟨T531,hT531⟩:=mkT fun a:Bool=>⟨253,[(3,(dI p3)),(4,(dU p4)),(5,(dU8 p5)),(14,(.ptr 0 0)),(21,(dB false)),(22,zb0),(23,zb0),(39,(.agg [(dI r4.a0.grain),(fzE false zaa r4.a0.nodes),(dI r4.a1.grain),(fzE false zaa r4.a1.nodes),(dI r4.a2.grain),(fzE false zaa r4.a2.nodes)])),(40,(dI v40)),(86,(dB a))],[.cells [(dI x7.grain),(fzE false zaa x7.nodes)]]⟩
    refine EvL.jn T531 (fun a=>a=o531) ?_ ?_
    ·refine zab ?_;try simp only[rnA,Nat.reduceEqDiff,Nat.reduceLT,zaj]
     cases c18:((r9.1.length:Int)== 0)
     ·rw[c18,cond_false]at j531;try simp only[rnA,Nat.reduceEqDiff,Nat.reduceLT]
      replace j531:=qab j531; subst j531;exact lfj hT531 rfl (wm0 [.k] ⟨MB.cs ⟨qcO,qcO,qcO⟩,qcO⟩)
     rw[c18,cond_true]at j531;try simp only[rnA,Nat.reduceEqDiff,Nat.reduceLT]
     cases c19:(r9.2 == 50)
     ·rw[c19,cond_false]at j531;try simp only[rnA,Nat.reduceEqDiff,Nat.reduceLT]
      replace j531:=qab j531; subst j531;exact lfj hT531 rfl (wm0 [.k] ⟨MB.cs ⟨qcO,qcO,qcO⟩,qcO⟩)
     rw[c19,cond_true]at j531;try simp only[rnA,Nat.reduceEqDiff,Nat.reduceLT,zaj]
     cases c20:((r11.1.length:Int)== 0)
     ·rw[c20,cond_false]at j531;try simp only[rnA,Nat.reduceEqDiff,Nat.reduceLT]
      replace j531:=qab j531; subst j531;exact lfj hT531 rfl (wm0 [.k] ⟨MB.cs ⟨qcO,qcO,qcO⟩,qcO⟩)
     rw[c20,cond_true]at j531;try simp only[rnA,Nat.reduceEqDiff,Nat.reduceLT]
     cases c21:(r11.2 == 50)
     ·rw[c21,cond_false]at j531;try simp only[rnA,Nat.reduceEqDiff,Nat.reduceLT]
      replace j531:=qab j531; subst j531;exact lfj hT531 rfl (wm0 [.k] ⟨MB.cs ⟨qcO,qcO,qcO⟩,qcO⟩)
     rw[c21,cond_true]at j531;try simp only[rnA,Nat.reduceEqDiff,Nat.reduceLT,zaj]
     cases c22:((r13.1.length:Int)== 0)
     ·rw[c22,cond_false]at j531;try simp only[rnA,Nat.reduceEqDiff,Nat.reduceLT]
      replace j531:=qab j531; subst j531;exact lfj hT531 rfl (wm0 [.k] ⟨MB.cs ⟨qcO,qcO,qcO⟩,qcO⟩)
     rw[c22,cond_true]at j531;try simp only[rnA,Nat.reduceEqDiff,Nat.reduceLT]
     replace j531:=qab j531; subst j531;exact lfj hT531 rfl (wm0 [.k] ⟨MB.cs ⟨qcO,qcO,qcO⟩,qcO⟩)
    rintro v86 rfl;rw[congrFun hT531 v86];refine zab ?_;try simp only[rnA,Nat.reduceEqDiff]
    cases c23:v86
    ·rw[c23,cond_false]at j530;try simp only[rnA]
     replace j530:=qab j530; subst j530;exact lfj hT530 rfl (zbD.m0 [.k] rfl (msq (msq (msq (msq (msq (mf rfl (znf (eI .u64)) (mf rfl (znf (eI .u64)) (ms rfl ⟨qcO,qcO,qcO,qcO,qcO,qcO,qcO⟩ (msq trivial))))))))) ⟨MB.cs ⟨qcO,qcO,qcO⟩,qcO⟩)
    rw[c23,cond_true]at j530;try simp only[rnA,Nat.reduceLT]
    replace j530:=qab j530; subst j530;dsimp only at j316;replace j316:=qab j316; subst j316;dsimp only at h;replace h:=qab h; subst h;exact zbq.ret rfl (.lit _)
   rw[c17,cond_true]at j530;obtain⟨r24,g25,j530⟩:=bind_some j530;try simp only[rnA,Nat.reduceEqDiff,Nat.reduceLT,Nat.reduceAdd,Nat.reduceLeDiff]
   refine EvL.fn (zeh g25) rfl rfl (.cons (.zcX (.cons (.lit _) (.cons (zar _ _ (fun h=>nomatch h)) .nil))) .nil) ?_;obtain⟨r26,g27,j530⟩:=bind_some j530;try simp only[rnA,Nat.reduceEqDiff,Nat.reduceLT]
   refine EvL.fn (zkI g27) rfl rfl (.cons (zar _ _ (fun h=>nomatch h)) .nil) ?_;try simp only[rnA,Nat.reduceEqDiff,Nat.reduceLT]
   obtain⟨o532,j532,j530⟩:=bind_some j530;obtain⟨T532,hT532⟩:=mkT fun a:Bool=>⟨253,[(3,(dI p3)),(4,(dU p4)),(5,(dU8 p5)),(14,(.ptr 0 0)),(21,(dB true)),(22,(fzE true (eI .u64) r24)),(23,(fzE true (eI .u64) r26)),(39,(.agg [(dI r4.a0.grain),(fzE false zaa r4.a0.nodes),(dI r4.a1.grain),(fzE false zaa r4.a1.nodes),(dI r4.a2.grain),(fzE false zaa r4.a2.nodes)])),(40,(dI v40)),(119,(dB a))],[.cells [(dI x7.grain),(fzE false zaa x7.nodes)]]⟩
   refine EvL.jn T532 (fun a=>a=o532) ?_ ?_
   ·refine zab ?_;try simp only[rnA,Nat.reduceEqDiff,Nat.reduceLT]
    cases c28:(r9.2 == 0)
    ·rw[c28,cond_false]at j532;try simp only[rnA,Nat.reduceEqDiff,Nat.reduceLT]
     refine EvL.skip rfl ?_;try simp only[rnA,Nat.reduceEqDiff,Nat.reduceLT]
     refine EvL.skip rfl ?_;try simp only[rnA,Nat.reduceLT]
     refine EvL.skip rfl ?_;try simp only[rnA,Nat.reduceEqDiff,Nat.reduceLT]
     refine EvL.skip rfl ?_;try simp only[rnA,Nat.reduceEqDiff,Nat.reduceLT]
     replace j532:=qab j532; subst j532;exact lfj hT532 rfl (wm0 [.k] ⟨MB.cs ⟨qcO,qcO,qcO⟩,qcO⟩)
    rw[c28,cond_true]at j532;obtain⟨r29,g30,j532⟩:=bind_some j532;try simp only[rnA,Nat.reduceEqDiff,Nat.reduceLT]
    refine EvL.fn (zhb g30) rfl rfl (.cons (zar _ _ (fun h=>nomatch h)) (.cons (zar _ _ (fun h=>nomatch h)) .nil)) ?_;try simp only[rnA,Nat.reduceEqDiff,Nat.reduceLT]
    cases c31:r29
    ·rw[c31,cond_false]at j532;try simp only[rnA,Nat.reduceEqDiff,Nat.reduceLT]
     refine EvL.skip rfl ?_;try simp only[rnA,Nat.reduceLT]
     refine EvL.skip rfl ?_;try simp only[rnA,Nat.reduceEqDiff,Nat.reduceLT]
     refine EvL.skip rfl ?_;try simp only[rnA,Nat.reduceEqDiff,Nat.reduceLT]
     replace j532:=qab j532; subst j532;exact lfj hT532 rfl (wm0 [.k] ⟨MB.cs ⟨qcO,qcO,qcO⟩,qcO⟩)
    rw[c31,cond_true]at j532;try simp only[rnA,Nat.reduceEqDiff,Nat.reduceLT]
    cases c32:(r11.2 == 0)
    ·rw[c32,cond_false]at j532;try simp only[rnA,Nat.reduceEqDiff,Nat.reduceLT]
     refine EvL.skip rfl ?_;try simp only[rnA,Nat.reduceLT]
     refine EvL.skip rfl ?_;try simp only[rnA,Nat.reduceEqDiff,Nat.reduceLT]
     refine EvL.skip rfl ?_;try simp only[rnA,Nat.reduceEqDiff,Nat.reduceLT]
     replace j532:=qab j532; subst j532;exact lfj hT532 rfl (wm0 [.k] ⟨MB.cs ⟨qcO,qcO,qcO⟩,qcO⟩)
    rw[c32,cond_true]at j532;obtain⟨r33,g34,j532⟩:=bind_some j532;try simp only[rnA,Nat.reduceEqDiff,Nat.reduceLT]
    refine EvL.fn (zkU g34) rfl rfl (.cons (zar _ _ (fun h=>nomatch h)) .nil) ?_;obtain⟨r35,g36,j532⟩:=bind_some j532;try simp only[rnA,Nat.reduceLT]
    refine EvL.fn (zlS g36) rfl rfl (.cons (zar _ _ (fun h=>nomatch h)) (.cons (zar _ _ (fun h=>nomatch h)) .nil)) ?_;try simp only[rnA,Nat.reduceEqDiff,Nat.reduceLT]
    cases c37:r35
    ·rw[c37,cond_false]at j532;try simp only[rnA,Nat.reduceEqDiff,Nat.reduceLT]
     refine EvL.skip rfl ?_;try simp only[rnA,Nat.reduceEqDiff,Nat.reduceLT]
     replace j532:=qab j532; subst j532;exact lfj hT532 rfl (wm0 [.k] ⟨MB.cs ⟨qcO,qcO,qcO⟩,qcO⟩)
    rw[c37,cond_true]at j532;try simp only[rnA,Nat.reduceEqDiff,Nat.reduceLT]
    cases c38:(r13.2 == 0)
    ·rw[c38,cond_false]at j532;try simp only[rnA,Nat.reduceEqDiff,Nat.reduceLT]
     refine EvL.skip rfl ?_;try simp only[rnA,Nat.reduceEqDiff,Nat.reduceLT]
     replace j532:=qab j532; subst j532;exact lfj hT532 rfl (wm0 [.k] ⟨MB.cs ⟨qcO,qcO,qcO⟩,qcO⟩)
    rw[c38,cond_true]at j532;obtain⟨r39,g40,j532⟩:=bind_some j532;try simp only[rnA,Nat.reduceEqDiff,Nat.reduceLT]
    refine EvL.fn (zhb g40) rfl rfl (.cons (zar _ _ (fun h=>nomatch h)) (.cons (zar _ _ (fun h=>nomatch h)) .nil)) ?_;try simp only[rnA,Nat.reduceEqDiff,Nat.reduceLT]
    replace j532:=qab j532; subst j532;exact lfj hT532 rfl (wm0 [.k] ⟨MB.cs ⟨qcO,qcO,qcO⟩,qcO⟩)
   rintro v119 rfl;rw[congrFun hT532 v119];refine zab ?_;try simp only[rnA,Nat.reduceEqDiff]
   cases c41:v119
   ·rw[c41,cond_false]at j530;try simp only[rnA]
    replace j530:=qab j530; subst j530;exact lfj hT530 rfl (wm0 [.k] ⟨MB.cs ⟨qcO,qcO,qcO⟩,qcO⟩)
   rw[c41,cond_true]at j530;try simp only[rnA,Nat.reduceLT]
   replace j530:=qab j530; subst j530;dsimp only at j316;replace j316:=qab j316; subst j316;dsimp only at h;replace h:=qab h; subst h;exact zbq.ret rfl (.lit _)
  rintro⟨v21,v22,v23⟩ rfl;dsimp only at j316;rw[congrFun hT530 (v21,v22,v23)];refine zab ?_;try simp only[rnA,Nat.reduceEqDiff,Nat.reduceLT,Nat.reduceAdd,Nat.reduceLeDiff,Int.reduceBEq]
  obtain⟨o560,j560,j316⟩:=bind_some j316;obtain⟨T560,hT560⟩:=mkT fun a:Bool=>⟨253,[(3,(dI p3)),(4,(dU p4)),(5,(dU8 p5)),(14,(.ptr 0 0)),(21,(dB a)),(22,(fzE true (eI .u64) v22)),(39,(.agg [(dI r4.a0.grain),(fzE false zaa r4.a0.nodes),(dI r4.a1.grain),(fzE false zaa r4.a1.nodes),(dI r4.a2.grain),(fzE false zaa r4.a2.nodes)])),(40,(dI v40))],[.cells [(dI x7.grain),(fzE false zaa x7.nodes)]]⟩
  refine EvL.jn T560 (fun a=>o560=.go a) ?_ ?_
  ·refine zab ?_;simp only[rnA];obtain⟨T579,hT579⟩:=mkT fun a:(Bool×Int)=>⟨253,[(3,(dI p3)),(4,(dU p4)),(5,(dU8 p5)),(14,(.ptr 0 0)),(21,(dB a.1)),(22,(fzE true (eI .u64) v22)),(23,(fzE true (eI .u64) v23)),(39,(.agg [(dI r4.a0.grain),(fzE false zaa r4.a0.nodes),(dI r4.a1.grain),(fzE false zaa r4.a1.nodes),(dI r4.a2.grain),(fzE false zaa r4.a2.nodes)])),(40,(dI v40)),(124,(.agg [(dI p3),(dI (w64 (p5.tmod 5)))])),(125,(dI a.2))],[.cells [(dI x7.grain),(fzE false zaa x7.nodes)]]⟩
   refine EvL.rounds (α:=(Bool×Int)) T579 (fun n a=>zaP p3 p5 x7 v22 v23 n a.1 a.2=some o560) (2 - 0+2:Int).toNat (v21,0) (by rw[hT579]; exact wm0 [.k] ⟨MB.cs ⟨qcO,qcO,qcO⟩,qcO⟩) j560 (fun _ h=>nomatch (show(none:Option (Out Bool Bool))=some o560 from h)) ?_;rintro n ⟨v21',v125⟩ j560;simp only[zaP]at j560;rw[congrFun hT579 (v21',v125)];refine zab ?_;try simp only[rnA,Nat.reduceEqDiff,Nat.reduceLT]
   cases c42:(decide (v125<2))
   ·rw[c42,cond_false]at j560;try simp only[rnA,Nat.reduceEqDiff,Nat.reduceLT,reduceCtorEq]
    replace j560:=qab j560; subst j560;exact lfj hT560 rfl (wm0 [.k] ⟨MB.cs ⟨qcO,qcO,qcO⟩,qcO⟩)
   rw[c42,cond_true]at j560;obtain⟨x43,g44,j560⟩:=bind_some j560;obtain⟨r45,g46,j560⟩:=bind_some j560;try simp only[rnA,Nat.reduceEqDiff,Nat.reduceLT,Nat.reduceAdd,Nat.reduceLeDiff,zbz g44,(show v125<((2:Nat):Int)from zbS g44),Nat.mul_one,qcp,(show [(dI p3),(dI (w64 (p5.tmod 5)))][v125.toNat]? = some (.lit (.int .i64 x43))from zkO g44 (fun x=>(.lit (.int .i64 x):D)) rfl)]
   refine EvL.fn (zhS g46) rfl rfl (.cons (.zcX (.cons (.lit _) (.cons (zar _ _ (fun h=>nomatch h)) .nil))) (.cons (.lit _) .nil)) ?_;try simp only[rnA,Nat.reduceEqDiff,Nat.reduceLT]
   obtain⟨o584,j584,j560⟩:=bind_some j560;obtain⟨T584,hT584⟩:=mkT fun a:Bool=>⟨253,[(3,(dI p3)),(4,(dU p4)),(5,(dU8 p5)),(14,(.ptr 0 0)),(21,(dB a)),(22,(fzE true (eI .u64) v22)),(23,(fzE true (eI .u64) v23)),(39,(.agg [(dI r4.a0.grain),(fzE false zaa r4.a0.nodes),(dI r4.a1.grain),(fzE false zaa r4.a1.nodes),(dI r4.a2.grain),(fzE false zaa r4.a2.nodes)])),(40,(dI v40)),(124,(.agg [(dI p3),(dI (w64 (p5.tmod 5)))])),(125,(dI v125))],[.cells [(dI x7.grain),(fzE false zaa x7.nodes)]]⟩
   refine EvL.jn T584 (fun a=>o584=.go a) ?_ ?_
   ·refine zab ?_;try simp only[rnA,Nat.reduceEqDiff]
    cases c47:v21'
    ·rw[c47,cond_false]at j584;try simp only[rnA]
     obtain⟨o585,j585,j584⟩:=bind_some j584;obtain⟨T585,hT585⟩:=mkT fun a:Bool=>⟨253,[(3,(dI p3)),(4,(dU p4)),(5,(dU8 p5)),(14,(.ptr 0 0)),(21,(dB false)),(22,(fzE true (eI .u64) v22)),(23,(fzE true (eI .u64) v23)),(39,(.agg [(dI r4.a0.grain),(fzE false zaa r4.a0.nodes),(dI r4.a1.grain),(fzE false zaa r4.a1.nodes),(dI r4.a2.grain),(fzE false zaa r4.a2.nodes)])),(40,(dI v40)),(124,(.agg [(dI p3),(dI (w64 (p5.tmod 5)))])),(125,(dI v125)),(142,(dB a))],[.cells [(dI x7.grain),(fzE false zaa x7.nodes)]]⟩
     refine EvL.jn T585 (fun a=>a=o585) ?_ ?_
     ·refine zab ?_;try simp only[rnA,Nat.reduceEqDiff,Nat.reduceLT]
      cases c48:(r45.1 == 0)
      ·rw[c48,cond_false]at j585;try simp only[rnA,Nat.reduceEqDiff,Nat.reduceLT]
       replace j585:=qab j585; subst j585;exact lfj hT585 rfl (wm0 [.k] ⟨MB.cs ⟨qcO,qcO,qcO⟩,qcO⟩)
      rw[c48,cond_true]at j585;try simp only[rnA,Nat.reduceEqDiff,Nat.reduceLT]
      replace j585:=qab j585; subst j585;exact lfj hT585 rfl (wm0 [.k] ⟨MB.cs ⟨qcO,qcO,qcO⟩,qcO⟩)
     rintro v142 rfl;rw[congrFun hT585 v142];refine zab ?_;try simp only[rnA,Nat.reduceEqDiff]
     cases c49:v142
     ·rw[c49,cond_false]at j584;try simp only[rnA]
      replace j584:=qab j584; subst j584;exact lfj hT584 rfl (wm0 [.k] ⟨MB.cs ⟨qcO,qcO,qcO⟩,qcO⟩)
     rw[c49,cond_true]at j584;try simp only[rnA,Nat.reduceLT]
     replace j584:=qab j584; subst j584;dsimp only at j560;replace j560:=qab j560; subst j560;dsimp only at j316;replace j316:=qab j316; subst j316;dsimp only at h;replace h:=qab h; subst h;exact zbq.ret rfl (.lit _)
    rw[c47,cond_true]at j584;try simp only[rnA]
    obtain⟨o586,j586,j584⟩:=bind_some j584;obtain⟨T586,hT586⟩:=mkT fun a:Bool=>⟨253,[(3,(dI p3)),(4,(dU p4)),(5,(dU8 p5)),(14,(.ptr 0 0)),(21,(dB true)),(22,(fzE true (eI .u64) v22)),(23,(fzE true (eI .u64) v23)),(25,(dI x43)),(26,(dU r45.1)),(27,(dI r45.2)),(39,(.agg [(dI r4.a0.grain),(fzE false zaa r4.a0.nodes),(dI r4.a1.grain),(fzE false zaa r4.a1.nodes),(dI r4.a2.grain),(fzE false zaa r4.a2.nodes)])),(40,(dI v40)),(124,(.agg [(dI p3),(dI (w64 (p5.tmod 5)))])),(125,(dI v125)),(143,(dB a))],[.cells [(dI x7.grain),(fzE false zaa x7.nodes)]]⟩
    refine EvL.jn T586 (fun a=>a=o586) ?_ ?_
    ·refine zab ?_;try simp only[rnA,Nat.reduceEqDiff,Nat.reduceLT]
     cases c50:(decide (x43<0))
     ·rw[c50,cond_false]at j586;try simp only[rnA,Nat.reduceEqDiff,Nat.reduceLT,zaj]
      replace j586:=qab j586; subst j586;exact lfj hT586 rfl (wm0 [.k] ⟨MB.cs ⟨qcO,qcO,qcO⟩,qcO⟩)
     rw[c50,cond_true]at j586;try simp only[rnA,Nat.reduceEqDiff,Nat.reduceLT]
     replace j586:=qab j586; subst j586;exact lfj hT586 rfl (wm0 [.k] ⟨MB.cs ⟨qcO,qcO,qcO⟩,qcO⟩)
    rintro v143 rfl;rw[congrFun hT586 v143];refine zab ?_;try simp only[rnA,Nat.reduceEqDiff]
    cases c51:v143
    ·rw[c51,cond_false]at j584;try simp only[rnA]
     obtain⟨o587,j587,j584⟩:=bind_some j584;obtain⟨T587,hT587⟩:=mkT fun a:Bool=>⟨253,[(3,(dI p3)),(4,(dU p4)),(5,(dU8 p5)),(14,(.ptr 0 0)),(21,(dB true)),(22,(fzE true (eI .u64) v22)),(23,(fzE true (eI .u64) v23)),(39,(.agg [(dI r4.a0.grain),(fzE false zaa r4.a0.nodes),(dI r4.a1.grain),(fzE false zaa r4.a1.nodes),(dI r4.a2.grain),(fzE false zaa r4.a2.nodes)])),(40,(dI v40)),(124,(.agg [(dI p3),(dI (w64 (p5.tmod 5)))])),(125,(dI v125)),(158,(dB a))],[.cells [(dI x7.grain),(fzE false zaa x7.nodes)]]⟩
     refine EvL.jn T587 (fun a=>a=o587) ?_ ?_
     ·refine zab ?_;obtain⟨x52,g53,j587⟩:=bind_some j587;try simp only[rnA,Nat.reduceEqDiff,Nat.reduceLT,zak (n:=1) (e:=(eI .u64)) rfl g53]
      cases c54:(r45.1 == x52)
      ·rw[c54,cond_false]at j587;try simp only[rnA,Nat.reduceEqDiff,Nat.reduceLT]
       replace j587:=qab j587; subst j587;exact lfj hT587 rfl (wm0 [.k] ⟨MB.cs ⟨qcO,qcO,qcO⟩,qcO⟩)
      rw[c54,cond_true]at j587;try simp only[rnA,Nat.reduceEqDiff,Nat.reduceLT]
      replace j587:=qab j587; subst j587;exact lfj hT587 rfl (wm0 [.k] ⟨MB.cs ⟨qcO,qcO,qcO⟩,qcO⟩)
     rintro v158 rfl;rw[congrFun hT587 v158];refine zab ?_;try simp only[rnA,Nat.reduceEqDiff]
     cases c55:v158
     ·rw[c55,cond_false]at j584;try simp only[rnA]
      replace j584:=qab j584; subst j584;exact lfj hT584 rfl (wm0 [.k] ⟨MB.cs ⟨qcO,qcO,qcO⟩,qcO⟩)
     rw[c55,cond_true]at j584;try simp only[rnA,Nat.reduceLT]
     replace j584:=qab j584; subst j584;dsimp only at j560;replace j560:=qab j560; subst j560;dsimp only at j316;replace j316:=qab j316; subst j316;dsimp only at h;replace h:=qab h; subst h;exact zbq.ret rfl (.lit _)
    rw[c51,cond_true]at j584;try simp only[rnA]
    obtain⟨o588,j588,j584⟩:=bind_some j584;obtain⟨T588,hT588⟩:=mkT fun a:Bool=>⟨253,[(3,(dI p3)),(4,(dU p4)),(5,(dU8 p5)),(14,(.ptr 0 0)),(21,(dB true)),(22,(fzE true (eI .u64) v22)),(23,(fzE true (eI .u64) v23)),(39,(.agg [(dI r4.a0.grain),(fzE false zaa r4.a0.nodes),(dI r4.a1.grain),(fzE false zaa r4.a1.nodes),(dI r4.a2.grain),(fzE false zaa r4.a2.nodes)])),(40,(dI v40)),(124,(.agg [(dI p3),(dI (w64 (p5.tmod 5)))])),(125,(dI v125)),(157,(dB a))],[.cells [(dI x7.grain),(fzE false zaa x7.nodes)]]⟩
    refine EvL.jn T588 (fun a=>a=o588) ?_ ?_
    ·refine zab ?_;try simp only[rnA,Nat.reduceEqDiff,Nat.reduceLT]
     cases c56:(r45.1 == 0)
     ·rw[c56,cond_false]at j588;try simp only[rnA,Nat.reduceEqDiff,Nat.reduceLT]
      replace j588:=qab j588; subst j588;exact lfj hT588 rfl (wm0 [.k] ⟨MB.cs ⟨qcO,qcO,qcO⟩,qcO⟩)
     rw[c56,cond_true]at j588;try simp only[rnA,Nat.reduceEqDiff,Nat.reduceLT]
     replace j588:=qab j588; subst j588;exact lfj hT588 rfl (wm0 [.k] ⟨MB.cs ⟨qcO,qcO,qcO⟩,qcO⟩)
    rintro v157 rfl;rw[congrFun hT588 v157];refine zab ?_;try simp only[rnA,Nat.reduceEqDiff]
    cases c57:v157
    ·rw[c57,cond_false]at j584;try simp only[rnA]
     replace j584:=qab j584; subst j584;exact lfj hT584 rfl (wm0 [.k] ⟨MB.cs ⟨qcO,qcO,qcO⟩,qcO⟩)
    rw[c57,cond_true]at j584;try simp only[rnA,Nat.reduceLT]
    replace j584:=qab j584; subst j584;dsimp only at j560;replace j560:=qab j560; subst j560;dsimp only at j316;replace j316:=qab j316; subst j316;dsimp only at h;replace h:=qab h; subst h;exact zbq.ret rfl (.lit _)
   rintro v21'' rfl;dsimp only at j560;rw[congrFun hT584 v21''];refine zab ?_;try simp only[rnA,Nat.reduceEqDiff,Nat.reduceLT]
   exact⟨(v21'',(w64 (v125+1))),j560,by rw[hT579]; exact wm0 [.k] ⟨MB.cs ⟨qcO,qcO,qcO⟩,qcO⟩⟩
  rintro v21' rfl;dsimp only at j316;rw[congrFun hT560 v21'];refine zab ?_;obtain⟨q58,g59,j316⟩:=bind_some j316;try simp only[rnA,Nat.reduceEqDiff,Nat.reduceLT,Nat.reduceAdd,Nat.reduceLeDiff,zaj,(zaY g59).1,(zaY g59).2]
  obtain⟨o610,j610,j316⟩:=bind_some j316;obtain⟨T610,hT610⟩:=mkT fun a:Unit=>⟨253,[(3,(dI p3)),(4,(dU p4)),(5,(dU8 p5)),(39,(.agg [(dI r4.a0.grain),(fzE false zaa r4.a0.nodes),(dI r4.a1.grain),(fzE false zaa r4.a1.nodes),(dI r4.a2.grain),(fzE false zaa r4.a2.nodes)])),(40,(dI v40))],[]⟩
  refine EvL.jn T610 (fun a=>o610=.go a) ?_ ?_
  ·refine zab ?_;simp only[rnA];obtain⟨T625,hT625⟩:=mkT fun a:(Bool×Int)=>⟨253,[(3,(dI p3)),(4,(dU p4)),(5,(dU8 p5)),(14,(.ptr 0 0)),(21,(dB a.1)),(22,(fzE true (eI .u64) v22)),(39,(.agg [(dI r4.a0.grain),(fzE false zaa r4.a0.nodes),(dI r4.a1.grain),(fzE false zaa r4.a1.nodes),(dI r4.a2.grain),(fzE false zaa r4.a2.nodes)])),(40,(dI v40)),(177,(.agg [(dU p4),(dU (zgv .u64 p4 (IntKind.u64.wrap (q58 - 1))))])),(178,(dI a.2))],[.cells [(dI x7.grain),(fzE false zaa x7.nodes)]]⟩
   refine EvL.rounds (α:=(Bool×Int)) T625 (fun n a=>zaO N p4 q58 x7 v22 n a.1 a.2=some o610) (2 - 0+2:Int).toNat (v21',0) (by rw[hT625]; exact wm0 [.k] ⟨MB.cs ⟨qcO,qcO,qcO⟩,qcO⟩) j610 (fun _ h=>nomatch (show(none:Option (Out Unit Bool))=some o610 from h)) ?_;rintro n ⟨v21'',v178⟩ j610;simp only[zaO]at j610;rw[congrFun hT625 (v21'',v178)];refine zab ?_;try simp only[rnA,Nat.reduceEqDiff,Nat.reduceLT]
   cases c60:(decide (v178<2))
   ·rw[c60,cond_false]at j610;try simp only[rnA,Nat.reduceEqDiff,Nat.reduceLT,reduceCtorEq]
    replace j610:=qab j610; subst j610;exact lfj hT610 rfl (wm0 [] (by exact trivial))
   rw[c60,cond_true]at j610;obtain⟨x61,g62,j610⟩:=bind_some j610;obtain⟨r63,g64,j610⟩:=bind_some j610;try simp only[rnA,Nat.reduceEqDiff,Nat.reduceLT,Nat.reduceAdd,Nat.reduceLeDiff,zbz g62,(show v178<((2:Nat):Int)from zbS g62),Nat.mul_one,qcp,(show [(dU p4),(dU (zgv .u64 p4 (IntKind.u64.wrap (q58 - 1))))][v178.toNat]? = some (.lit (.int .u64 x61))from zkO g62 (fun x=>(.lit (.int .u64 x):D)) rfl)]
   refine EvL.fn (zgF g64) rfl rfl (.cons (.zcX (.cons (.lit _) (.cons (zar _ _ (fun h=>nomatch h)) .nil))) (.cons (.lit _) .nil)) ?_;obtain⟨r65,g66,j610⟩:=bind_some j610;try simp only[rnA,Nat.reduceEqDiff,Nat.reduceLT,Nat.reduceAdd,Nat.reduceLeDiff]
   refine EvL.fn (zge g66) rfl rfl (.cons (.zcX (.cons (.lit _) (.cons (zar _ _ (fun h=>nomatch h)) .nil))) (.cons (.lit _) .nil)) ?_;try simp only[rnA,Nat.reduceEqDiff,Nat.reduceLT]
   obtain⟨o629,j629,j610⟩:=bind_some j610;obtain⟨T629,hT629⟩:=mkT fun a:Bool=>⟨253,[(3,(dI p3)),(4,(dU p4)),(5,(dU8 p5)),(14,(.ptr 0 0)),(21,(dB a)),(22,(fzE true (eI .u64) v22)),(39,(.agg [(dI r4.a0.grain),(fzE false zaa r4.a0.nodes),(dI r4.a1.grain),(fzE false zaa r4.a1.nodes),(dI r4.a2.grain),(fzE false zaa r4.a2.nodes)])),(40,(dI v40)),(177,(.agg [(dU p4),(dU (zgv .u64 p4 (IntKind.u64.wrap (q58 - 1))))])),(178,(dI v178))],[.cells [(dI x7.grain),(fzE false zaa x7.nodes)]]⟩
   refine EvL.jn T629 (fun a=>o629=.go a) ?_ ?_
   ·refine zab ?_;try simp only[rnA,Nat.reduceEqDiff]
    cases c67:v21''
    ·rw[c67,cond_false]at j629;try simp only[rnA]
     obtain⟨o630,j630,j629⟩:=bind_some j629;obtain⟨T630,hT630⟩:=mkT fun a:Bool=>⟨253,[(3,(dI p3)),(4,(dU p4)),(5,(dU8 p5)),(14,(.ptr 0 0)),(21,(dB false)),(22,(fzE true (eI .u64) v22)),(39,(.agg [(dI r4.a0.grain),(fzE false zaa r4.a0.nodes),(dI r4.a1.grain),(fzE false zaa r4.a1.nodes),(dI r4.a2.grain),(fzE false zaa r4.a2.nodes)])),(40,(dI v40)),(177,(.agg [(dU p4),(dU (zgv .u64 p4 (IntKind.u64.wrap (q58 - 1))))])),(178,(dI v178)),(209,(dB a))],[.cells [(dI x7.grain),(fzE false zaa x7.nodes)]]⟩
     refine EvL.jn T630 (fun a=>a=o630) ?_ ?_
     ·refine zab ?_;try simp only[rnA,Nat.reduceEqDiff,Nat.reduceLT]
      cases c68:(r63.1 == 0)
      ·rw[c68,cond_false]at j630;try simp only[rnA,Nat.reduceEqDiff,Nat.reduceLT]
       replace j630:=qab j630; subst j630;exact lfj hT630 rfl (wm0 [.k] ⟨MB.cs ⟨qcO,qcO,qcO⟩,qcO⟩)
      rw[c68,cond_true]at j630;try simp only[rnA,Nat.reduceEqDiff,Nat.reduceLT]
      cases c69:(r63.2 == 50)
      ·rw[c69,cond_false]at j630;try simp only[rnA,Nat.reduceEqDiff,Nat.reduceLT]
       replace j630:=qab j630; subst j630;exact lfj hT630 rfl (wm0 [.k] ⟨MB.cs ⟨qcO,qcO,qcO⟩,qcO⟩)
      rw[c69,cond_true]at j630;try simp only[rnA,Nat.reduceEqDiff,Nat.reduceLT]
      cases c70:(r65.1 == 0)
      ·rw[c70,cond_false]at j630;try simp only[rnA,Nat.reduceEqDiff,Nat.reduceLT]
       replace j630:=qab j630; subst j630;exact lfj hT630 rfl (wm0 [.k] ⟨MB.cs ⟨qcO,qcO,qcO⟩,qcO⟩)
      rw[c70,cond_true]at j630;try simp only[rnA,Nat.reduceEqDiff,Nat.reduceLT]
      replace j630:=qab j630; subst j630;exact lfj hT630 rfl (wm0 [.k] ⟨MB.cs ⟨qcO,qcO,qcO⟩,qcO⟩)
     rintro v209 rfl;rw[congrFun hT630 v209];refine zab ?_;try simp only[rnA,Nat.reduceEqDiff]
     cases c71:v209
     ·rw[c71,cond_false]at j629;try simp only[rnA]
      replace j629:=qab j629; subst j629;exact lfj hT629 rfl (wm0 [.k] ⟨MB.cs ⟨qcO,qcO,qcO⟩,qcO⟩)
     rw[c71,cond_true]at j629;try simp only[rnA,Nat.reduceLT]
     replace j629:=qab j629; subst j629;dsimp only at j610;replace j610:=qab j610; subst j610;dsimp only at j316;replace j316:=qab j316; subst j316;dsimp only at h;replace h:=qab h; subst h;exact zbq.ret rfl (.lit _)
    rw[c67,cond_true]at j629;obtain⟨q72,g73,j629⟩:=bind_some j629;try simp only[rnA,Nat.reduceEqDiff,Nat.reduceLT,zaj,(zbj g73).1,(zbj g73).2]
    cases c74:(q72 == 0)
    ·rw[c74,cond_false]at j629;try simp only[rnA]
     obtain⟨o631,j631,j629⟩:=bind_some j629;obtain⟨T631,hT631⟩:=mkT fun a:Bool=>⟨253,[(3,(dI p3)),(4,(dU p4)),(5,(dU8 p5)),(14,(.ptr 0 0)),(21,(dB true)),(22,(fzE true (eI .u64) v22)),(39,(.agg [(dI r4.a0.grain),(fzE false zaa r4.a0.nodes),(dI r4.a1.grain),(fzE false zaa r4.a1.nodes),(dI r4.a2.grain),(fzE false zaa r4.a2.nodes)])),(40,(dI v40)),(177,(.agg [(dU p4),(dU (zgv .u64 p4 (IntKind.u64.wrap (q58 - 1))))])),(178,(dI v178)),(229,(dB a))],[.cells [(dI x7.grain),(fzE false zaa x7.nodes)]]⟩
     refine EvL.jn T631 (fun a=>a=o631) ?_ ?_
     ·refine zab ?_;try simp only[rnA,Nat.reduceEqDiff,Nat.reduceLT]
      cases c75:(r63.1 == 0)
      ·rw[c75,cond_false]at j631;try simp only[rnA,Nat.reduceEqDiff,Nat.reduceLT]
       replace j631:=qab j631; subst j631;exact lfj hT631 rfl (wm0 [.k] ⟨MB.cs ⟨qcO,qcO,qcO⟩,qcO⟩)
      rw[c75,cond_true]at j631;try simp only[rnA,Nat.reduceEqDiff,Nat.reduceLT]
      cases c76:(r63.2 == 2)
      ·rw[c76,cond_false]at j631;try simp only[rnA,Nat.reduceEqDiff,Nat.reduceLT]
       replace j631:=qab j631; subst j631;exact lfj hT631 rfl (wm0 [.k] ⟨MB.cs ⟨qcO,qcO,qcO⟩,qcO⟩)
      rw[c76,cond_true]at j631;try simp only[rnA,Nat.reduceEqDiff,Nat.reduceLT]
      cases c77:(r65.1 == 0)
      ·rw[c77,cond_false]at j631;try simp only[rnA,Nat.reduceEqDiff,Nat.reduceLT]
       replace j631:=qab j631; subst j631;exact lfj hT631 rfl (wm0 [.k] ⟨MB.cs ⟨qcO,qcO,qcO⟩,qcO⟩)
      rw[c77,cond_true]at j631;try simp only[rnA,Nat.reduceEqDiff,Nat.reduceLT]
      replace j631:=qab j631; subst j631;exact lfj hT631 rfl (wm0 [.k] ⟨MB.cs ⟨qcO,qcO,qcO⟩,qcO⟩)
     rintro v229 rfl;rw[congrFun hT631 v229];refine zab ?_;try simp only[rnA,Nat.reduceEqDiff]
     cases c78:v229
     ·rw[c78,cond_false]at j629;try simp only[rnA]
      replace j629:=qab j629; subst j629;exact lfj hT629 rfl (wm0 [.k] ⟨MB.cs ⟨qcO,qcO,qcO⟩,qcO⟩)
     rw[c78,cond_true]at j629;try simp only[rnA,Nat.reduceLT]
     replace j629:=qab j629; subst j629;dsimp only at j610;replace j610:=qab j610; subst j610;dsimp only at j316;replace j316:=qab j316; subst j316;dsimp only at h;replace h:=qab h; subst h;exact zbq.ret rfl (.lit _)
    rw[c74,cond_true]at j629;try simp only[rnA]
    obtain⟨o632,j632,j629⟩:=bind_some j629;obtain⟨T632,hT632⟩:=mkT fun a:Bool=>⟨253,[(3,(dI p3)),(4,(dU p4)),(5,(dU8 p5)),(14,(.ptr 0 0)),(21,(dB true)),(22,(fzE true (eI .u64) v22)),(39,(.agg [(dI r4.a0.grain),(fzE false zaa r4.a0.nodes),(dI r4.a1.grain),(fzE false zaa r4.a1.nodes),(dI r4.a2.grain),(fzE false zaa r4.a2.nodes)])),(40,(dI v40)),(177,(.agg [(dU p4),(dU (zgv .u64 p4 (IntKind.u64.wrap (q58 - 1))))])),(178,(dI v178)),(230,(dB a))],[.cells [(dI x7.grain),(fzE false zaa x7.nodes)]]⟩
    refine EvL.jn T632 (fun a=>a=o632) ?_ ?_
    ·refine zab ?_;obtain⟨r79,g80,j632⟩:=bind_some j632;try simp only[rnA,Nat.reduceEqDiff,Nat.reduceLT]
     refine EvL.fn (zj0 g80) rfl rfl (.cons (zar _ _ (fun h=>nomatch h)) (.cons (.lit _) .nil)) ?_;try simp only[rnA,Nat.reduceEqDiff,Nat.reduceLT]
     cases c81:(r63.1 == r79)
     ·rw[c81,cond_false]at j632;try simp only[rnA,Nat.reduceEqDiff,Nat.reduceLT]
      refine EvL.skip rfl ?_;try simp only[rnA,Nat.reduceEqDiff,Nat.reduceLT]
      replace j632:=qab j632; subst j632;exact lfj hT632 rfl (wm0 [.k] ⟨MB.cs ⟨qcO,qcO,qcO⟩,qcO⟩)
     rw[c81,cond_true]at j632;try simp only[rnA,Nat.reduceEqDiff,Nat.reduceLT]
     cases c82:(r63.2 == 0)
     ·rw[c82,cond_false]at j632;try simp only[rnA,Nat.reduceEqDiff,Nat.reduceLT]
      refine EvL.skip rfl ?_;try simp only[rnA,Nat.reduceEqDiff,Nat.reduceLT]
      replace j632:=qab j632; subst j632;exact lfj hT632 rfl (wm0 [.k] ⟨MB.cs ⟨qcO,qcO,qcO⟩,qcO⟩)
     rw[c82,cond_true]at j632;obtain⟨r83,g84,j632⟩:=bind_some j632;try simp only[rnA,Nat.reduceEqDiff,Nat.reduceLT]
     refine EvL.fn (zlF g84) rfl rfl (.cons (zar _ _ (fun h=>nomatch h)) (.cons (.lit _) .nil)) ?_;try simp only[rnA,Nat.reduceEqDiff,Nat.reduceLT]
     cases c85:(r65.1 == r83)
     ·rw[c85,cond_false]at j632;try simp only[rnA,Nat.reduceEqDiff,Nat.reduceLT]
      replace j632:=qab j632; subst j632;exact lfj hT632 rfl (wm0 [.k] ⟨MB.cs ⟨qcO,qcO,qcO⟩,qcO⟩)
     rw[c85,cond_true]at j632;try simp only[rnA,Nat.reduceEqDiff,Nat.reduceLT]
     replace j632:=qab j632; subst j632;exact lfj hT632 rfl (wm0 [.k] ⟨MB.cs ⟨qcO,qcO,qcO⟩,qcO⟩)
    rintro v230 rfl;rw[congrFun hT632 v230];refine zab ?_;try simp only[rnA,Nat.reduceEqDiff]
    cases c86:v230
    ·rw[c86,cond_false]at j629;try simp only[rnA]
     replace j629:=qab j629; subst j629;exact lfj hT629 rfl (wm0 [.k] ⟨MB.cs ⟨qcO,qcO,qcO⟩,qcO⟩)
    rw[c86,cond_true]at j629;try simp only[rnA,Nat.reduceLT]
    replace j629:=qab j629; subst j629;dsimp only at j610;replace j610:=qab j610; subst j610;dsimp only at j316;replace j316:=qab j316; subst j316;dsimp only at h;replace h:=qab h; subst h;exact zbq.ret rfl (.lit _)
   rintro v21''' rfl;dsimp only at j610;rw[congrFun hT629 v21'''];refine zab ?_;try simp only[rnA,Nat.reduceEqDiff,Nat.reduceLT]
   exact⟨(v21''',(w64 (v178+1))),j610,by rw[hT625]; exact wm0 [.k] ⟨MB.cs ⟨qcO,qcO,qcO⟩,qcO⟩⟩
  rintro⟨⟩ rfl;dsimp only at j316;rw[congrFun hT610 ()];refine zab ?_;try simp only[rnA,Nat.reduceEqDiff,Nat.reduceLT]
  exact⟨(w64 (v40+1)),j316,by rw[hT527]; exact wm0 [] (by exact trivial)⟩
 rintro⟨⟩ rfl;dsimp only at h;rw[congrFun hT316 ()];refine zab ?_;try simp only[rnA,Nat.reduceLT]
 replace h:=qab h; subst h;exact zbq.ret rfl (.lit _)
end Go.Dc
