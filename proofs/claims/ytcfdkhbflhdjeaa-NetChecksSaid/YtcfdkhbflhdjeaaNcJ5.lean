/-
 What r05_Draft_Net computes. Conditions: none.
-/
import Derived.Test.YtcfdkhbflhdjeaaNcJ4
import Derived.Test.YtcfdkhbflhdjeaaNcJ2
set_option linter.unusedSimpArgs false
set_option linter.unusedVariables false
set_option maxRecDepth 100000
set_option maxHeartbeats 4000000
namespace Go.Dc
open Go Go.Mx Go.Lx Go.Proofs
def za5(p0:S_haruspexref05_Draft)(r5:(List Int)):Nat→Int→Int→(List S_api_Node)→Option (List S_api_Node)
 | 0,_,_,_=>none
 | n+1,v6,v7,l2=>(
bif (decide (v7<(zco (zcO (p0.nodes.length:Int) 1) 5)))then(
((bif (decide (v7<(p0.nodes.length:Int)))then(
(zaO p0.nodes v7).bind fun x9=>
some (x9.card,x9.parents,x9.w))
else(
some (0,0,[])):Option ((Int×Int×(List Int))))).bind fun o=>match o with
|(b4_0,b4_1,b4_2)=>(
(zmV .i64 (w64 (v6 * (w64 (2+(w64 (b4_0.tmod 2)))))) (IntKind.u64.wrap (w64 ((w64 ((zco (zcO (p0.nodes.length:Int) 1) 5) - 1)) - v7)))).bind fun q11=>
((bif (decide (100<q11))then(
some 2)
else(
some (w64 (2+(w64 (b4_0.tmod 2))))):Option Int)).bind fun v9=>
(zaO r5 v7).bind fun x14=>
(zaO l2 x14).bind fun x16=>
(zgG l2 x14 (S_api_Node.mk v9 x16.parents x16.rows)).bind fun y18=>
za5 p0 r5 n (w64 (v6 * v9)) (w64 (v7+1)) y18))
else(
some l2))
def zbm(N:Nat)(p0:S_haruspexref05_Draft)(r5:(List Int)):Nat→Int→(List S_api_Node)→Option (List S_api_Node)
 | 0,_,_=>none
 | n+1,v10,l2'=>(
bif (decide (v10<(zco (zcO (p0.nodes.length:Int) 1) 5)))then(
((bif (decide (v10<(p0.nodes.length:Int)))then(
(zaO p0.nodes v10).bind fun x22=>
some (x22.card,x22.parents,x22.w))
else(
some (0,0,[])):Option ((Int×Int×(List Int))))).bind fun o=>match o with
|(b4_0,b4_1,b4_2)=>(
(zaO r5 v10).bind fun x24=>
(zlr r5 v10 x24 (zco (zcO (p0.nodes.length:Int) 1) 5) b4_1 l2').bind fun y26=>
(zlL N (w64 (1+(w64 (p0.grain.tmod 60)))) x24 b4_2 y26).bind fun y28=>
zbm N p0 r5 n (w64 (v10+1)) y28))
else(
some l2'))
def zbz(N:Nat)(p0:S_haruspexref05_Draft):Option S_api_Net:=
(zgl 56 (zco (zcO (p0.nodes.length:Int) 1) 5) (S_api_Node.mk 0 [] [])).bind fun y1=>
(zgl 1 (zco (zcO (p0.nodes.length:Int) 1) 5) 0).bind fun y3=>
(zaX N (S_haruspexref02_Draft.mk y3 0 p0.order)).bind fun r5=>
((za5 p0 r5 ((zco (zcO (p0.nodes.length:Int) 1) 5) - 0+2:Int).toNat 1 0 y1:Option (List S_api_Node))).bind fun l2=>
((zbm N p0 r5 ((zco (zcO (p0.nodes.length:Int) 1) 5) - 0+2:Int).toNat 0 l2:Option (List S_api_Node))).bind fun l2'=>
some (S_api_Net.mk (w64 (1+(w64 (p0.grain.tmod 60)))) l2')
def zeR:C:=
 .seq (rg [oW 1 0,
 ⟨some 2,.alloc [(.int .i64 0),(.slice none 0 0)],none⟩])
 (.seq (rg [oF 16 1 1,
 oL 17 16,
 oE 18 17,
 ⟨some 19,.mm true [(.s 18),(.c (.int .i64 1))],none⟩,
 ⟨some 20,.mm false [(.s 19),(.c (.int .i64 5))],none⟩,
 oM 3 20])
 (.seq (.reg true false [oF 21 0 1,
 oL 22 21,
 ⟨some 23,.bin .rem (.s 22) (.c (.int .u8 60)),none⟩,
 ⟨some 24,.conv .i64 (.s 23),none⟩,
 ⟨some 25,.bin .add (.c (.int .i64 1)) (.s 24),none⟩,
 oM 26 3,
 ⟨some 27,.mk 3 56 [(.int .i64 0),(.slice none 0 0),(.slice none 0 0)] (.s 26) (.s 26),none⟩,
 ⟨some 28,.build [(.int .i64 0),(.slice none 0 0)] [(0,1,(.s 25)),(1,1,(.s 27))],none⟩,
 ⟨some 4,.alloc [(.int .i64 0),(.slice none 0 0)],none⟩,
 oS 2 4 28])
 (.seq (.reg true false [oM 29 3,
 oF 31 2 1,
 oL 32 31,
 ⟨some 30,.mk 1 1 [(.int .u8 0)] (.s 29) (.s 29),none⟩,
 ⟨some 33,.build [(.slice none 0 0),(.int .u16 0),(.slice none 0 0)] [(0,1,(.s 30)),(2,1,(.s 32))],none⟩,
 oU 34 72 33,
 oM 5 34])
 (.seq (rg [oK 6 1])
 (.seq (.seq (rg [oK 7 0])
 (.scope (.block 0 (.loop (.seq (.seq (rg [oM 35 7,
 oM 36 3,
 oB 37 .lss 35 36])
 (.cond (.s 37) (.skip)
 (.exit 0)))
 (.seq (.block 1 (.seq (rg [⟨some 8,.alloc [(.int .u8 0),(.int .u8 0),(.slice none 0 0)],none⟩])
 (.seq (.seq (rg [oM 40 7,
 oF 41 1 1,
 oL 42 41,
 oE 43 42,
 oB 44 .lss 40 43])
 (.scope (.cond (.s 44) (rg [oF 45 1 1,
 oL 46 45,
 oM 47 7,
 oI 48 3 46 47,
 oN 49 3 48,
 oS 3 8 49])
 (.skip))))
 (.seq (rg [oF 50 0 8,
 oL 51 50,
 ⟨some 52,.bin .rem (.s 51) (.c (.int .u8 2)),none⟩,
 ⟨some 53,.conv .i64 (.s 52),none⟩,
 ⟨some 54,.bin .add (.c (.int .i64 2)) (.s 53),none⟩,
 oM 9 54])
 (.seq (.seq (rg [oM 55 6,
 oM 56 9,
 oB 57 .mul 55 56,
 oM 58 3,
 oD 59 .sub 58 1,
 oM 60 7,
 oB 61 .sub 59 60,
 ⟨some 62,.conv .u64 (.s 61),none⟩,
 oB 63 .shl 57 62,
 oD 64 .gtr 63 100])
 (.scope (.cond (.s 64) (rg [oK 9 2])
 (.skip))))
 (.seq (rg [oM 65 6,
 oM 66 9,
 oB 67 .mul 65 66,
 oM 6 67])
 (.reg true false [oF 68 1 4,
 oL 69 68,
 oM 70 5,
 oM 71 7,
 oI 72 1 70 71,
 oL 73 72,
 oM 74 9,
 oI 75 3 69 73,
 oF 76 0 75,
 oS 1 76 74])))))))
 (rg [oM 38 7,
 oD 39 .add 38 1,
 oM 7 39])))))))
 (.seq (.seq (rg [oK 10 0])
 (.scope (.block 2 (.loop (.seq (.seq (rg [oM 77 10,
 oM 78 3,
 oB 79 .lss 77 78])
 (.cond (.s 79) (.skip)
 (.exit 2)))
 (.seq (.block 3 (.seq (rg [⟨some 11,.alloc [(.int .u8 0),(.int .u8 0),(.slice none 0 0)],none⟩])
 (.seq (.seq (rg [oM 82 10,
 oF 83 1 1,
 oL 84 83,
 oE 85 84,
 oB 86 .lss 82 85])
 (.scope (.cond (.s 86) (rg [oF 87 1 1,
 oL 88 87,
 oM 89 10,
 oI 90 3 88 89,
 oN 91 3 90,
 oS 3 11 91])
 (.skip))))
 (.seq (rg [oM 92 5,
 oM 93 10,
 oI 94 1 92 93,
 oL 95 94,
 oM 12 95])
 (.seq (.seq (rg [oK 13 0])
 (.scope (.block 4 (.loop (.seq (.seq (rg [oM 96 13,
 oM 97 3,
 oB 98 .lss 96 97])
 (.cond (.s 98) (.skip)
 (.exit 4)))
 (.seq (.block 5 (.seq (rg [oK 14 0])
 (.scope (.block 6 (.loop (.seq (.seq (rg [oM 101 14,
 oM 102 10,
 oB 103 .lss 101 102])
 (.cond (.s 103) (.skip)
 (.exit 6)))
 (.seq (.block 7 (.seq (.scope (rg [oM 106 5,
 oM 107 14,
 oI 108 1 106 107,
 oL 109 108,
 oM 110 13,
 oB 111 .eql 109 110,
 oM 112 111,
 oFg 113 1 11 112 true,
 oLg 114 113 112 true,
 oMg 115 14 112 true,
 ⟨some 116,.conv .u64 (.s 115),some (112,true)⟩,
 ⟨some 117,.bin .shr (.s 114) (.s 116),some (112,true)⟩,
 ⟨some 118,.bin .and (.s 117) (.c (.int .u8 1)),some (112,true)⟩,
 ⟨some 119,.bin .eql (.s 118) (.c (.int .u8 1)),some (112,true)⟩,
 ⟨some 120,.pick (.s 112) (.s 119) (.c (.bool false)),none⟩,
 oM 121 120,
 oFg 122 1 4 121 true,
 oLg 123 122 121 true,
 oMg 124 12 121 true,
 ⟨some 125,.idxS 3 (.s 123) (.s 124),some (121,true)⟩,
 oFg 126 1 125 121 true,
 oLg 127 126 121 true,
 ⟨some 128,.len (.s 127),some (121,true)⟩,
 oDg 129 .lss 128 3 121 true,
 ⟨some 130,.pick (.s 121) (.s 129) (.c (.bool false)),none⟩]))
 (.scope (.cond (.s 130) (.reg true false [oF 131 1 4,
 oL 132 131,
 oM 133 12,
 oF 134 1 4,
 oL 135 134,
 oM 136 12,
 oI 137 3 135 136,
 oF 138 1 137,
 oL 139 138,
 oM 140 13,
 ⟨some 141,.bsl 1 1 [(.int .i64 0)] [(0,(.s 140))],none⟩,
 ⟨none,.avo [(.s 131)] (.s 139),none⟩,
 oT 142 1 8 139 141,
 oI 143 3 132 133,
 oF 144 1 143,
 oS 1 144 142])
 (.skip)))))
 (rg [oM 104 14,
 oD 105 .add 104 1,
 oM 14 105]))))))))
 (rg [oM 99 13,
 oD 100 .add 99 1,
 oM 13 100])))))))
 (.seq (rg [oK 15 0])
 (.scope (.block 8 (.loop (.seq (.seq (rg [oM 145 15,
 oN 146 2 4,
 oM 147 12,
 oV 148 49 146 147,
 oU 149 48 148,
 oB 150 .lss 145 149])
 (.cond (.s 150) (.skip)
 (.exit 8)))
 (.seq (.block 9 (.reg true true [oF 153 1 4,
 oL 154 153,
 oM 155 12,
 oF 156 1 4,
 oL 157 156,
 oM 158 12,
 oI 159 3 157 158,
 oF 160 2 159,
 oL 161 160,
 oF 162 0 4,
 oL 163 162,
 oF 164 1 4,
 oL 165 164,
 oM 166 12,
 oI 167 3 165 166,
 oF 168 0 167,
 oL 169 168,
 oF 170 2 11,
 oL 171 170,
 oM 172 15,
 oF 173 1 4,
 oL 174 173,
 oM 175 12,
 oI 176 3 174 175,
 oF 177 0 176,
 oL 178 177,
 oD 179 .add 178 1,
 oB 180 .mul 172 179,
 ⟨some 181,.call 73 [(.s 163),(.s 169),(.s 171),(.s 180)],none⟩,
 ⟨some 182,.bsl 1 1 [(.slice none 0 0)] [(0,(.s 181))],none⟩,
 ⟨none,.avo [(.s 153)] (.s 161),none⟩,
 oT 183 1 24 161 182,
 oI 184 3 154 155,
 oF 185 2 184,
 oS 1 185 183]))
 (rg [oM 151 15,
 oD 152 .add 151 1,
 oM 15 152]))))))))))))
 (rg [oM 80 10,
 oD 81 .add 80 1,
 oM 10 81])))))))
 (.seq (rg [oN 186 2 4,
 oS 2 2 186])
 (.ret))))))))
theorem zgp:zlz mC 42=some (187,zeR,[.cell 2 (some 2)],false):=zc8 (by kernel_rfl)
theorem zez{N:Nat}{p0:S_haruspexref05_Draft}{r:S_api_Net}(h:zbz N p0=some r):Lx.Fn mC 42 [(.agg [(dU8 p0.grain),(fzE false zae p0.nodes),(fzE false (eI .u8) p0.order)])] (.agg [(dI r.grain),(fzE true zaa r.nodes)]):=by
 refine Fn.of zgp (zcH rfl) (qah rfl) ?_;unfold zbz at h;simp only[zeR,zfw];refine zab ?_;obtain⟨y1,g2,h⟩:=bind_some h;obtain⟨y3,g4,h⟩:=bind_some h;obtain⟨r5,g6,h⟩:=bind_some h;try simp only[rnA,Nat.reduceEqDiff,Nat.reduceLT,Nat.reduceAdd,Nat.reduceLeDiff,Int.reduceBEq,reduceCtorEq,zaj,(zcJ g2).1.1,(zcJ g2).1.2,qcr,(show List.replicate (Int.toNat (zco (zcO (p0.nodes.length:Int) 1) 5)) [(dI 0),zbW,zbW]=y1.map (zag.c true)from zeO g2 (zag.c true)),(zcJ g4).1.2,(show List.replicate (Int.toNat (zco (zcO (p0.nodes.length:Int) 1) 5)) [(dU8 0)]=y3.map ((eI .u8).c true)from zeO g4 ((eI .u8).c true))]
 refine EvL.fn (zej g6) rfl rfl (.cons (.zcf (.cons (zal (e:=(eI .u8)) (t:=true) rfl (.inl rfl) (zd4 g4).symm (zd4 g4).symm (fun k h=>by cases h; exact qak _) (fun h=>nomatch h)) (.cons (.lit _) (.cons (zan _ _ (fun h=>nomatch h)) .nil)))) .nil) ?_;try simp only[rnA,Nat.reduceEqDiff,Nat.reduceLT,reduceCtorEq]
 obtain⟨o7,j7,h⟩:=bind_some h;obtain⟨T7,hT7⟩:=mkT fun a:(List S_api_Node)=>⟨187,[(1,(.ptr 0 0)),(2,(.ptr 1 0)),(3,(dI (zco (zcO (p0.nodes.length:Int) 1) 5))),(4,(.ptr 3 0)),(5,(fzE true (eI .i64) r5))],[.cells [(dU8 p0.grain),(fzE false zae p0.nodes),(fzE false (eI .u8) p0.order)],.cells [(dI 0),zbW],.els 3 (a.map (zag.c true)),.cells [(dI (w64 (1+(w64 (p0.grain.tmod 60))))),(.sl 2 0 3 (Int.toNat (zco (zcO (p0.nodes.length:Int) 1) 5)) (some (Int.toNat (zco (zcO (p0.nodes.length:Int) 1) 5))) (Int.toNat (zco (zcO (p0.nodes.length:Int) 1) 5)))]]⟩
 refine EvL.jn T7 (fun a=>a=o7∧a.length=(Int.toNat (zco (zcO (p0.nodes.length:Int) 1) 5))) ?_ ?_
 ·refine zab ?_;simp only[rnA];obtain⟨T12,hT12⟩:=mkT fun a:(Int×Int×(List S_api_Node))=>⟨187,[(1,(.ptr 0 0)),(2,(.ptr 1 0)),(3,(dI (zco (zcO (p0.nodes.length:Int) 1) 5))),(4,(.ptr 3 0)),(5,(fzE true (eI .i64) r5)),(6,(dI a.1)),(7,(dI a.2.1))],[.cells [(dU8 p0.grain),(fzE false zae p0.nodes),(fzE false (eI .u8) p0.order)],.cells [(dI 0),zbW],.els 3 (a.2.2.map (zag.c true)),.cells [(dI (w64 (1+(w64 (p0.grain.tmod 60))))),(.sl 2 0 3 (Int.toNat (zco (zcO (p0.nodes.length:Int) 1) 5)) (some (Int.toNat (zco (zcO (p0.nodes.length:Int) 1) 5))) (Int.toNat (zco (zcO (p0.nodes.length:Int) 1) 5)))]]⟩
  refine EvL.rounds (α:=(Int×Int×(List S_api_Node))) T12 (fun n a=>za5 p0 r5 n a.1 a.2.1 a.2.2=some o7∧a.2.2.length=(Int.toNat (zco (zcO (p0.nodes.length:Int) 1) 5))) ((zco (zcO (p0.nodes.length:Int) 1) 5) - 0+2:Int).toNat (1,0,y1) (by rw[hT12]; exact wm0 [.k,.k,.k,.k] ⟨MB.cs ⟨qcG,qcG,qcG,qcG⟩,⟨MB.cs ⟨qcG,qcG,qcG⟩,⟨MB.es zag true y1,⟨MB.cs ⟨qcG,rfl,qcG⟩,qcG⟩⟩⟩⟩) ⟨j7,zd4 g2⟩ (fun _ h=>nomatch (show(none:Option (List S_api_Node))=some o7 from h.1)) ?_;rintro n ⟨v6,v7,l2⟩ ⟨j7,el2⟩;simp only[za5]at j7;rw[congrFun hT12 (v6,v7,l2)];refine zab ?_;try simp only[rnA,Nat.reduceEqDiff,Nat.reduceLT]
  cases c7:(decide (v7<(zco (zcO (p0.nodes.length:Int) 1) 5)))
  ·rw[c7,cond_false]at j7;try simp only[rnA]
   replace j7:=qab j7; subst j7;exact⟨_,⟨rfl,el2⟩,by rw[hT7]; exact wm0 [.k,.k,.k,.k] ⟨MB.cs ⟨qcG,qcG,qcG,qcG⟩,⟨MB.cs ⟨qcG,qcG,qcG⟩,⟨MB.es zag true l2,⟨MB.cs ⟨qcG,rfl,qcG⟩,qcG⟩⟩⟩⟩⟩
  rw[c7,cond_true]at j7;try simp only[rnA,Nat.reduceEqDiff,Nat.reduceLT,Nat.reduceAdd,zaj]
  obtain⟨o13,j13,j7⟩:=bind_some j7;obtain⟨T13,hT13⟩:=mkT fun a:(Int×Int×(List Int))=>⟨187,[(1,(.ptr 0 0)),(2,(.ptr 1 0)),(3,(dI (zco (zcO (p0.nodes.length:Int) 1) 5))),(4,(.ptr 3 0)),(5,(fzE true (eI .i64) r5)),(6,(dI v6)),(7,(dI v7)),(8,(.ptr 4 0))],[.cells [(dU8 p0.grain),(fzE false zae p0.nodes),(fzE false (eI .u8) p0.order)],.cells [(dI 0),zbW],.els 3 (l2.map (zag.c true)),.cells [(dI (w64 (1+(w64 (p0.grain.tmod 60))))),(.sl 2 0 3 (Int.toNat (zco (zcO (p0.nodes.length:Int) 1) 5)) (some (Int.toNat (zco (zcO (p0.nodes.length:Int) 1) 5))) (Int.toNat (zco (zcO (p0.nodes.length:Int) 1) 5)))],.cells [(dU8 a.1),(dU8 a.2.1),(fzE false (eI .u8) a.2.2)]]⟩
  refine EvL.jn T13 (fun a=>a=o13) ?_ ?_
  ·refine zab ?_;try simp only[rnA,Nat.reduceEqDiff]
   cases c8:(decide (v7<(p0.nodes.length:Int)))
   ·rw[c8,cond_false]at j13;try simp only[rnA]
    replace j13:=qab j13; subst j13;exact lfj hT13 rfl (wm0 [.k,.k,.k,.k,.k] ⟨MB.cs ⟨qcG,qcG,qcG,qcG⟩,⟨MB.cs ⟨qcG,qcG,qcG⟩,⟨MB.es zag true l2,⟨MB.cs ⟨qcG,rfl,qcG⟩,⟨MB.zuA (.cons (.same trivial) (.cons (.same trivial) (.cons (.fr (zsS (eI .u8))) .nil))),qcG⟩⟩⟩⟩⟩)
   rw[c8,cond_true]at j13;obtain⟨x9,g10,j13⟩:=bind_some j13;try simp only[rnA,Nat.reduceEqDiff,Nat.reduceLT,Nat.reduceAdd,Nat.reduceLeDiff,zat,zai (n:=3) (e:=zae) rfl g10]
   replace j13:=qab j13; subst j13;exact lfj hT13 rfl (wm0 [.k,.k,.k,.k,.k] ⟨MB.cs ⟨qcG,qcG,qcG,qcG⟩,⟨MB.cs ⟨qcG,qcG,qcG⟩,⟨MB.es zag true l2,⟨MB.cs ⟨qcG,rfl,qcG⟩,⟨MB.cs ⟨qcG,qcG,qcG,qcG⟩,qcG⟩⟩⟩⟩⟩)
  rintro⟨b4_0,b4_1,b4_2⟩ rfl;dsimp only at j7;rw[congrFun hT13 (b4_0,b4_1,b4_2)];refine zab ?_;obtain⟨q11,g12,j7⟩:=bind_some j7;try simp only[rnA,Nat.reduceEqDiff,Nat.reduceLT,Int.reduceBEq,(zdS g12).1,(zdS g12).2]
  obtain⟨o14,j14,j7⟩:=bind_some j7;obtain⟨T14,hT14⟩:=mkT fun a:Int=>⟨187,[(1,(.ptr 0 0)),(2,(.ptr 1 0)),(3,(dI (zco (zcO (p0.nodes.length:Int) 1) 5))),(4,(.ptr 3 0)),(5,(fzE true (eI .i64) r5)),(6,(dI v6)),(7,(dI v7)),(9,(dI a))],[.cells [(dU8 p0.grain),(fzE false zae p0.nodes),(fzE false (eI .u8) p0.order)],.cells [(dI 0),zbW],.els 3 (l2.map (zag.c true)),.cells [(dI (w64 (1+(w64 (p0.grain.tmod 60))))),(.sl 2 0 3 (Int.toNat (zco (zcO (p0.nodes.length:Int) 1) 5)) (some (Int.toNat (zco (zcO (p0.nodes.length:Int) 1) 5))) (Int.toNat (zco (zcO (p0.nodes.length:Int) 1) 5)))]]⟩
  refine EvL.jn T14 (fun a=>a=o14) ?_ ?_
  ·refine zab ?_;try simp only[rnA,Nat.reduceEqDiff]
   cases c13:(decide (100<q11))
   ·rw[c13,cond_false]at j14;try simp only[rnA]
    replace j14:=qab j14; subst j14;exact lfj hT14 rfl (wm0 [.k,.k,.k,.k] ⟨MB.cs ⟨qcG,qcG,qcG,qcG⟩,⟨MB.cs ⟨qcG,qcG,qcG⟩,⟨MB.es zag true l2,⟨MB.cs ⟨qcG,rfl,qcG⟩,qcG⟩⟩⟩⟩)
   rw[c13,cond_true]at j14;try simp only[rnA,Nat.reduceLT]
   replace j14:=qab j14; subst j14;exact lfj hT14 rfl (wm0 [.k,.k,.k,.k] ⟨MB.cs ⟨qcG,qcG,qcG,qcG⟩,⟨MB.cs ⟨qcG,qcG,qcG⟩,⟨MB.es zag true l2,⟨MB.cs ⟨qcG,rfl,qcG⟩,qcG⟩⟩⟩⟩)
  rintro v9 rfl;rw[congrFun hT14 v9];refine zab ?_;obtain⟨x14,g15,j7⟩:=bind_some j7;obtain⟨x16,g17,j7⟩:=bind_some j7;obtain⟨y18,g19,j7⟩:=bind_some j7;try simp only[rnA,Nat.reduceEqDiff,Nat.reduceLT,Nat.reduceAdd,Nat.reduceLeDiff,zdZ,zai (n:=1) (e:=(eI .i64)) rfl g15,el2,zbP g17,(show x14<(((Int.toNat (zco (zcO (p0.nodes.length:Int) 1) 5)):Nat):Int)from el2 ▸ zcq g17),zbv g17 (zag.c true),(show(l2.map (zag.c true)).set x14.toNat [(dI v9),(nE true (eI .i64) x16.parents),(nE true (eL (eI .i64)) x16.rows)]=y18.map (zag.c true)from zcX g19 (zag.c true))]
  exact⟨((w64 (v6 * v9)),(w64 (v7+1)),y18),⟨j7,(zcE g19).trans el2⟩,by rw[hT12]; exact wm0 [.k,.k,.k,.k] ⟨MB.cs ⟨qcG,qcG,qcG,qcG⟩,⟨MB.cs ⟨qcG,qcG,qcG⟩,⟨MB.es zag true y18,⟨MB.cs ⟨qcG,rfl,qcG⟩,qcG⟩⟩⟩⟩⟩
 rintro l2 ⟨rfl,el2⟩;rw[congrFun hT7 l2];refine zab ?_;try simp only[rnA,Nat.reduceLT]
 obtain⟨o18,j18,h⟩:=bind_some h;obtain⟨T18,hT18⟩:=mkT fun a:(List S_api_Node)=>⟨187,[(2,(.ptr 1 0)),(4,(.ptr 3 0))],[.gone,.cells [(dI 0),zbW],.els 3 (a.map (zag.c true)),.cells [(dI (w64 (1+(w64 (p0.grain.tmod 60))))),(.sl 2 0 3 (Int.toNat (zco (zcO (p0.nodes.length:Int) 1) 5)) (some (Int.toNat (zco (zcO (p0.nodes.length:Int) 1) 5))) (Int.toNat (zco (zcO (p0.nodes.length:Int) 1) 5)))]]⟩
 refine EvL.jn T18 (fun a=>a=o18∧a.length=(Int.toNat (zco (zcO (p0.nodes.length:Int) 1) 5))) ?_ ?_
 ·refine zab ?_;simp only[rnA];obtain⟨T21,hT21⟩:=mkT fun a:(Int×(List S_api_Node))=>⟨187,[(1,(.ptr 0 0)),(2,(.ptr 1 0)),(3,(dI (zco (zcO (p0.nodes.length:Int) 1) 5))),(4,(.ptr 3 0)),(5,(fzE true (eI .i64) r5)),(10,(dI a.1))],[.cells [(dU8 p0.grain),(fzE false zae p0.nodes),(fzE false (eI .u8) p0.order)],.cells [(dI 0),zbW],.els 3 (a.2.map (zag.c true)),.cells [(dI (w64 (1+(w64 (p0.grain.tmod 60))))),(.sl 2 0 3 (Int.toNat (zco (zcO (p0.nodes.length:Int) 1) 5)) (some (Int.toNat (zco (zcO (p0.nodes.length:Int) 1) 5))) (Int.toNat (zco (zcO (p0.nodes.length:Int) 1) 5)))]]⟩
  refine EvL.rounds (α:=(Int×(List S_api_Node))) T21 (fun n a=>zbm N p0 r5 n a.1 a.2=some o18∧a.2.length=(Int.toNat (zco (zcO (p0.nodes.length:Int) 1) 5))) ((zco (zcO (p0.nodes.length:Int) 1) 5) - 0+2:Int).toNat (0,l2) (by rw[hT21]; exact wm0 [.k,.k,.k,.k] ⟨MB.cs ⟨qcG,qcG,qcG,qcG⟩,⟨MB.cs ⟨qcG,qcG,qcG⟩,⟨MB.es zag true l2,⟨MB.cs ⟨qcG,rfl,qcG⟩,qcG⟩⟩⟩⟩) ⟨j18,el2⟩ (fun _ h=>nomatch (show(none:Option (List S_api_Node))=some o18 from h.1)) ?_;rintro n ⟨v10,l2'⟩ ⟨j18,el2'⟩;simp only[zbm]at j18;rw[congrFun hT21 (v10,l2')];refine zab ?_;try simp only[rnA,Nat.reduceEqDiff,Nat.reduceLT]
  cases c20:(decide (v10<(zco (zcO (p0.nodes.length:Int) 1) 5)))
  ·rw[c20,cond_false]at j18;try simp only[rnA]
   replace j18:=qab j18; subst j18;exact⟨_,⟨rfl,el2'⟩,by rw[hT18]; exact wm0 [.d,.k,.k,.k] ⟨rfl,⟨MB.cs ⟨qcG,qcG,qcG⟩,⟨MB.es zag true l2',⟨MB.cs ⟨qcG,rfl,qcG⟩,qcG⟩⟩⟩⟩⟩
  rw[c20,cond_true]at j18;try simp only[rnA,Nat.reduceEqDiff,Nat.reduceLT,Nat.reduceAdd,zaj]
  obtain⟨o22,j22,j18⟩:=bind_some j18;obtain⟨T22,hT22⟩:=mkT fun a:(Int×Int×(List Int))=>⟨187,[(1,(.ptr 0 0)),(2,(.ptr 1 0)),(3,(dI (zco (zcO (p0.nodes.length:Int) 1) 5))),(4,(.ptr 3 0)),(5,(fzE true (eI .i64) r5)),(10,(dI v10)),(11,(.ptr 4 0))],[.cells [(dU8 p0.grain),(fzE false zae p0.nodes),(fzE false (eI .u8) p0.order)],.cells [(dI 0),zbW],.els 3 (l2'.map (zag.c true)),.cells [(dI (w64 (1+(w64 (p0.grain.tmod 60))))),(.sl 2 0 3 (Int.toNat (zco (zcO (p0.nodes.length:Int) 1) 5)) (some (Int.toNat (zco (zcO (p0.nodes.length:Int) 1) 5))) (Int.toNat (zco (zcO (p0.nodes.length:Int) 1) 5)))],.cells [(dU8 a.1),(dU8 a.2.1),(fzE false (eI .u8) a.2.2)]]⟩
  refine EvL.jn T22 (fun a=>a=o22) ?_ ?_
  ·refine zab ?_;try simp only[rnA,Nat.reduceEqDiff]
   cases c21:(decide (v10<(p0.nodes.length:Int)))
   ·rw[c21,cond_false]at j22;try simp only[rnA]
    replace j22:=qab j22; subst j22;exact lfj hT22 rfl (wm0 [.k,.k,.k,.k,.k] ⟨MB.cs ⟨qcG,qcG,qcG,qcG⟩,⟨MB.cs ⟨qcG,qcG,qcG⟩,⟨MB.es zag true l2',⟨MB.cs ⟨qcG,rfl,qcG⟩,⟨MB.zuA (.cons (.same trivial) (.cons (.same trivial) (.cons (.fr (zsS (eI .u8))) .nil))),qcG⟩⟩⟩⟩⟩)
   rw[c21,cond_true]at j22;obtain⟨x22,g23,j22⟩:=bind_some j22;try simp only[rnA,Nat.reduceEqDiff,Nat.reduceLT,Nat.reduceAdd,Nat.reduceLeDiff,zat,zai (n:=3) (e:=zae) rfl g23]
   replace j22:=qab j22; subst j22;exact lfj hT22 rfl (wm0 [.k,.k,.k,.k,.k] ⟨MB.cs ⟨qcG,qcG,qcG,qcG⟩,⟨MB.cs ⟨qcG,qcG,qcG⟩,⟨MB.es zag true l2',⟨MB.cs ⟨qcG,rfl,qcG⟩,⟨MB.cs ⟨qcG,qcG,qcG,qcG⟩,qcG⟩⟩⟩⟩⟩)
  rintro⟨b4_0,b4_1,b4_2⟩ rfl;dsimp only at j18;rw[congrFun hT22 (b4_0,b4_1,b4_2)];refine zab ?_;obtain⟨x24,g25,j18⟩:=bind_some j18;try simp only[rnA,Nat.reduceEqDiff,Nat.reduceLT,zai (n:=1) (e:=(eI .i64)) rfl g25]
  obtain⟨y26,g27,j18⟩:=bind_some j18;refine EvL.zd1 (S':=⟨187,[(1,(.ptr 0 0)),(2,(.ptr 1 0)),(3,(dI (zco (zcO (p0.nodes.length:Int) 1) 5))),(4,(.ptr 3 0)),(5,(fzE true (eI .i64) r5)),(10,(dI v10)),(11,(.ptr 4 0)),(12,(dI x24)),(13,(dI 0))],[.cells [(dU8 p0.grain),(fzE false zae p0.nodes),(fzE false (eI .u8) p0.order)],.cells [(dI 0),zbW],.els 3 (l2'.map (zag.c true)),.cells [(dI (w64 (1+(w64 (p0.grain.tmod 60))))),(.sl 2 0 3 (Int.toNat (zco (zcO (p0.nodes.length:Int) 1) 5)) (some (Int.toNat (zco (zcO (p0.nodes.length:Int) 1) 5))) (Int.toNat (zco (zcO (p0.nodes.length:Int) 1) 5)))],.cells [(dU8 b4_0),(dU8 b4_1),(fzE false (eI .u8) b4_2)]]⟩) (wm0 [.k,.k,.k,.k,.k] ⟨MB.cs ⟨qcG,qcG,qcG,qcG⟩,⟨MB.cs ⟨qcG,qcG,qcG⟩,⟨MB.es zag true l2',⟨MB.cs ⟨qcG,rfl,qcG⟩,⟨MB.cs ⟨qcG,qcG,qcG,qcG⟩,qcG⟩⟩⟩⟩⟩) ?_;refine zvw g27 (fun kp=>⟨qcG,qcG,qcG,qcG⟩) (fun kp=>⟨qcG,qcG,qcG⟩) (fun kp=>trivial) (fun kp=>trivial) el2' (zab ?_);try simp only[rnA,Nat.reduceLT]
  obtain⟨y28,g29,j18⟩:=bind_some j18;refine EvL.zd1 (S':=⟨187,[(1,(.ptr 0 0)),(2,(.ptr 1 0)),(3,(dI (zco (zcO (p0.nodes.length:Int) 1) 5))),(4,(.ptr 3 0)),(5,(fzE true (eI .i64) r5)),(10,(dI v10)),(11,(.ptr 4 0)),(12,(dI x24)),(15,(dI 0))],[.cells [(dU8 p0.grain),(fzE false zae p0.nodes),(fzE false (eI .u8) p0.order)],.cells [(dI 0),zbW],.els 3 (y26.map (zag.c true)),.cells [(dI (w64 (1+(w64 (p0.grain.tmod 60))))),(.sl 2 0 3 (Int.toNat (zco (zcO (p0.nodes.length:Int) 1) 5)) (some (Int.toNat (zco (zcO (p0.nodes.length:Int) 1) 5))) (Int.toNat (zco (zcO (p0.nodes.length:Int) 1) 5)))],.cells [(dU8 b4_0),(dU8 b4_1),(fzE false (eI .u8) b4_2)]]⟩) (wm0 [.k,.k,.k,.k,.k] ⟨MB.cs ⟨qcG,qcG,qcG,qcG⟩,⟨MB.cs ⟨qcG,qcG,qcG⟩,⟨MB.es zag true y26,⟨MB.cs ⟨qcG,rfl,qcG⟩,⟨MB.cs ⟨qcG,qcG,qcG,qcG⟩,qcG⟩⟩⟩⟩⟩) ?_;refine zvs g29 (fun kp=>⟨qcG,qcG,qcG,qcG⟩) (fun kp=>⟨qcG,qcG,qcG⟩) (fun kp=>trivial) (fun kp=>trivial) ((ziy g27).trans el2') (zab ?_);try simp only[rnA,Nat.reduceEqDiff,Nat.reduceLT]
  exact⟨((w64 (v10+1)),y28),⟨j18,((znp g29).trans ((ziy g27).trans el2'))⟩,by rw[hT21]; exact wm0 [.k,.k,.k,.k] ⟨MB.cs ⟨qcG,qcG,qcG,qcG⟩,⟨MB.cs ⟨qcG,qcG,qcG⟩,⟨MB.es zag true y28,⟨MB.cs ⟨qcG,rfl,qcG⟩,qcG⟩⟩⟩⟩⟩
 rintro l2' ⟨rfl,el2'⟩;rw[congrFun hT18 l2'];refine zab ?_;try simp only[rnA,Nat.reduceEqDiff,Nat.reduceLT,Nat.reduceAdd,Nat.reduceLeDiff]
 replace h:=qab h; subst h;exact za6.ret rfl (.zcf (.cons (.lit _) (.cons (zas (e:=zaa) rfl (.inl rfl) (by rw[qaB]; exact(el2').symm) (by rw[qaB]; exact(el2').symm) (fun k h=>by cases h; exact qak _) (zhm (fun _=>rfl) l2')) .nil)))
def zba(p0:(List Int))(p1:Int):Nat→Int→Option (Out Unit Bool)
 | 0,_=>none
 | n+1,v5=>(
bif (decide (v5<(p0.length:Int)))then(
(((zaO p0 v5).bind fun x2=>
bif (decide (x2<0))then(
some true)
else(
bif (decide (p1≤x2))then(
some true)
else(
bif (decide (0<v5))then(
(zaO p0 (w64 (v5 - 1))).bind fun x7=>
some (decide (x2≤x7)))
else(
some false))):Option Bool)).bind fun v40=>
bif v40 then(
some (.ret false))
else(
zba p0 p1 n (w64 (v5+1))))
else(
some (.go ())))
def zc3(p0:(List Int))(p1:Int):Option Bool:=
((zba p0 p1 ((p0.length:Int) - 0+2:Int).toNat 0:Option (Out Unit Bool))).bind fun o=>match o with
| .go _=>(
some true)
| .ret r=>some r
def zgB:C:=
 .seq (rg [oJ 4 false])
 (.seq (.seq (rg [oK 5 0])
 (.scope (.block 0 (.loop (.seq (.seq (rg [oM 6 5,
 oM 7 0,
 oE 8 7,
 oB 9 .lss 6 8])
 (.cond (.s 9) (.skip)
 (.exit 0)))
 (.seq (.block 1 (.seq (.scope (.reg true false [oM 12 0,
 oM 13 5,
 oI 14 1 12 13,
 oL 15 14,
 oD 16 .lss 15 0,
 oM 17 16,
 oMg 18 0 17 false,
 oMg 19 5 17 false,
 ⟨some 20,.idxS 1 (.s 18) (.s 19),some (17,false)⟩,
 oLg 21 20 17 false,
 oMg 22 1 17 false,
 ⟨some 23,.bin .geq (.s 21) (.s 22),some (17,false)⟩,
 oP 24 17 23,
 oM 25 24,
 oMg 26 5 25 false,
 oDg 27 .gtr 26 0 25 false,
 oMg 28 27 25 false,
 oMg 29 0 28 true,
 oMg 30 5 28 true,
 ⟨some 31,.idxS 1 (.s 29) (.s 30),some (28,true)⟩,
 oLg 32 31 28 true,
 oMg 33 0 28 true,
 oMg 34 5 28 true,
 oDg 35 .sub 34 1 28 true,
 ⟨some 36,.idxS 1 (.s 33) (.s 35),some (28,true)⟩,
 oLg 37 36 28 true,
 ⟨some 38,.bin .leq (.s 32) (.s 37),some (28,true)⟩,
 ⟨some 39,.pick (.s 28) (.s 38) (.c (.bool false)),some (25,false)⟩,
 oP 40 25 39]))
 (.cond (.s 40) (.seq (rg [oJ 4 false])
 (.ret))
 (.skip))))
 (rg [oM 10 5,
 oD 11 .add 10 1,
 oM 5 11])))))))
 (.seq (rg [oJ 4 true])
 (.ret)))
theorem zhS:zlz mC 45=some (41,zgB,[.tmp 4],false):=zc8 (by kernel_rfl)
theorem zjP{p0:(List Int)}{p1:Int}{r:Bool}(h:zc3 p0 p1=some r):Lx.Fn mC 45 [(fzE false (eI .i64) p0),(dI p1)] (dB r):=by
 refine Fn.of zhS (zcH rfl) (qah rfl) ?_;unfold zc3 at h;simp only[zgB,zfw];refine zab ?_;try simp only[rnA,Nat.reduceLT,Nat.reduceAdd]
 obtain⟨o4,j4,h⟩:=bind_some h;obtain⟨T4,hT4⟩:=mkT fun a:Unit=>⟨41,[],[]⟩
 refine EvL.jn T4 (fun a=>o4=.go a) ?_ ?_
 ·refine zab ?_;simp only[rnA];obtain⟨T7,hT7⟩:=mkT fun a:Int=>⟨41,[(0,(fzE false (eI .i64) p0)),(1,(dI p1)),(5,(dI a))],[]⟩
  refine EvL.rounds (α:=Int) T7 (fun n a=>zba p0 p1 n a=some o4) ((p0.length:Int) - 0+2:Int).toNat 0 (by rw[hT7]; exact wm0 [] (by exact trivial)) j4 (fun _ h=>nomatch (show(none:Option (Out Unit Bool))=some o4 from h)) ?_;rintro n v5 j4;simp only[zba]at j4;rw[congrFun hT7 v5];refine zab ?_;try simp only[rnA,Nat.reduceEqDiff,Nat.reduceLT,reduceCtorEq,zaj]
  cases c1:(decide (v5<(p0.length:Int)))
  ·rw[c1,cond_false]at j4;try simp only[rnA]
   replace j4:=qab j4; subst j4;exact lfj hT4 rfl (wm0 [] (by exact trivial))
  rw[c1,cond_true]at j4;try simp only[rnA]
  obtain⟨o8,j8,j4⟩:=bind_some j4;obtain⟨T8,hT8⟩:=mkT fun a:Bool=>⟨41,[(0,(fzE false (eI .i64) p0)),(1,(dI p1)),(5,(dI v5)),(40,(dB a))],[]⟩
  refine EvL.jn T8 (fun a=>a=o8) ?_ ?_
  ·refine zab ?_;obtain⟨x2,g3,j8⟩:=bind_some j8;try simp only[rnA,Nat.reduceEqDiff,Nat.reduceLT,reduceCtorEq,zai (n:=1) (e:=(eI .i64)) rfl g3]
   cases c4:(decide (x2<0))
   ·rw[c4,cond_false]at j8;try simp only[rnA,Nat.reduceEqDiff,Nat.reduceLT,reduceCtorEq,zai (n:=1) (e:=(eI .i64)) rfl g3]
    cases c5:(decide (p1≤x2))
    ·rw[c5,cond_false]at j8;try simp only[rnA,Nat.reduceEqDiff,Nat.reduceLT,reduceCtorEq]
     cases c6:(decide (0<v5))
     ·rw[c6,cond_false]at j8;try simp only[rnA,Nat.reduceEqDiff,Nat.reduceLT,reduceCtorEq]
      replace j8:=qab j8; subst j8;exact lfj hT8 rfl (wm0 [] (by exact trivial))
     rw[c6,cond_true]at j8;obtain⟨x7,g8,j8⟩:=bind_some j8;try simp only[rnA,Nat.reduceEqDiff,Nat.reduceLT,reduceCtorEq,zai (n:=1) (e:=(eI .i64)) rfl g3,zai (n:=1) (e:=(eI .i64)) rfl g8]
     replace j8:=qab j8; subst j8;exact lfj hT8 rfl (wm0 [] (by exact trivial))
    rw[c5,cond_true]at j8;try simp only[rnA,Nat.reduceEqDiff,Nat.reduceLT,reduceCtorEq]
    replace j8:=qab j8; subst j8;exact lfj hT8 rfl (wm0 [] (by exact trivial))
   rw[c4,cond_true]at j8;try simp only[rnA,Nat.reduceEqDiff,Nat.reduceLT,reduceCtorEq]
   replace j8:=qab j8; subst j8;exact lfj hT8 rfl (wm0 [] (by exact trivial))
  rintro v40 rfl;rw[congrFun hT8 v40];refine zab ?_;try simp only[rnA,Nat.reduceEqDiff,reduceCtorEq]
  cases c9:v40
  ·rw[c9,cond_false]at j4;try simp only[rnA,Nat.reduceEqDiff,Nat.reduceLT,reduceCtorEq]
   exact⟨(w64 (v5+1)),j4,by rw[hT7]; exact wm0 [] (by exact trivial)⟩
  rw[c9,cond_true]at j4;try simp only[rnA,Nat.reduceLT]
  replace j4:=qab j4; subst j4;dsimp only at h;replace h:=qab h; subst h;exact za6.ret rfl (.lit _)
 rintro⟨⟩ rfl;dsimp only at h;rw[congrFun hT4 ()];refine zab ?_;try simp only[rnA,Nat.reduceLT]
 replace h:=qab h; subst h;exact za6.ret rfl (.lit _)
def zfg(p0:Int)(p1:Int):Option Bool:=
(zkr .u64 p0 (IntKind.u64.wrap p1)).bind fun q1=>
some ((znD .u64 q1 1)== 1)
theorem zkq{p0:Int}{p1:Int}{r:Bool}(h:zfg p0 p1=some r):Lx.Fn mC 50 [(dU p0),(dI p1)] (dB r):=by
 refine fnO (by conv=>lhs; cbv) ?_;unfold zfg at h;refine zab ?_;obtain⟨q1,g2,h⟩:=bind_some h;try simp only[rnA,Nat.reduceEqDiff,reduceIte,Nat.reduceLT,Nat.reduceAdd,Nat.reduceLeDiff,Nat.reduceMul,Nat.reduceSub,Int.reduceLE,Int.reduceLT,Int.reduceBEq,Nat.reduceBEq,reduceCtorEq,(zdO g2).1,(zdO g2).2]
 replace h:=qab h; subst h;exact za6.ret rfl (.lit _)
def zdG(p0:(List Int)):Nat→Int→Int→Option Int
 | 0,_,_=>none
 | n+1,v1',v6=>(
bif (decide (v6<(p0.length:Int)))then(
(zfg v1' v6).bind fun r3=>
((bif r3 then(
(zaO p0 v6).bind fun x6=>
some (orI .u64 v1' x6))
else(
some v1'):Option Int)).bind fun v1''=>
zdG p0 n v1'' (w64 (v6+1)))
else(
some v1'))
def zdB(p0:(List Int)):Nat→Int→Int→Option Int
 | 0,_,_=>none
 | n+1,v1,v5=>(
bif (decide (v5<(p0.length:Int)))then(
((zdG p0 ((p0.length:Int) - 0+2:Int).toNat v1 0:Option Int)).bind fun v1'=>
zdB p0 n v1' (w64 (v5+1)))
else(
some v1))
def zgf(p0:(List Int))(p1:Int):Option Int:=
((zdB p0 ((p0.length:Int) - 0+2:Int).toNat p1 0:Option Int)).bind fun v1=>
some v1
theorem zqB{p0:(List Int)}{p1:Int}{r:Int}(h:zgf p0 p1=some r):Lx.Fn mC 80 [(fzE false (eI .u64) p0),(dU p1)] (dU r):=by
 refine fnO (by conv=>lhs; cbv) ?_;unfold zgf at h;refine zab ?_;try simp only[rnA,Nat.reduceLT,Nat.reduceAdd]
 obtain⟨o25,j25,h⟩:=bind_some h;obtain⟨T25,hT25⟩:=mkT fun a:Int=>⟨29,[(1,(dU a))],[]⟩
 refine EvL.jn T25 (fun a=>a=o25) ?_ ?_
 ·refine zab ?_;simp only[rnA];obtain⟨T42,hT42⟩:=mkT fun a:(Int×Int)=>⟨29,[(0,(fzE false (eI .u64) p0)),(1,(dU a.1)),(5,(dI a.2))],[]⟩
  refine EvL.rounds (α:=(Int×Int)) T42 (fun n a=>zdB p0 n a.1 a.2=some o25) ((p0.length:Int) - 0+2:Int).toNat (p1,0) (by rw[hT42]; exact wm0 [] (by exact trivial)) j25 (fun _ h=>nomatch (show(none:Option Int)=some o25 from h)) ?_;rintro n ⟨v1,v5⟩ j25;simp only[zdB]at j25;rw[congrFun hT42 (v1,v5)];refine zab ?_;try simp only[rnA,Nat.reduceEqDiff,Nat.reduceLT,reduceCtorEq,zaj]
  cases c1:(decide (v5<(p0.length:Int)))
  ·rw[c1,cond_false]at j25;try simp only[rnA]
   replace j25:=qab j25; subst j25;exact lfj hT25 rfl (wm0 [] (by exact trivial))
  rw[c1,cond_true]at j25;try simp only[rnA,Nat.reduceLT]
  obtain⟨o46,j46,j25⟩:=bind_some j25;obtain⟨T46,hT46⟩:=mkT fun a:Int=>⟨29,[(0,(fzE false (eI .u64) p0)),(1,(dU a)),(5,(dI v5))],[]⟩
  refine EvL.jn T46 (fun a=>a=o46) ?_ ?_
  ·refine zab ?_;simp only[rnA];obtain⟨T49,hT49⟩:=mkT fun a:(Int×Int)=>⟨29,[(0,(fzE false (eI .u64) p0)),(1,(dU a.1)),(5,(dI v5)),(6,(dI a.2))],[]⟩
   refine EvL.rounds (α:=(Int×Int)) T49 (fun n a=>zdG p0 n a.1 a.2=some o46) ((p0.length:Int) - 0+2:Int).toNat (v1,0) (by rw[hT49]; exact wm0 [] (by exact trivial)) j46 (fun _ h=>nomatch (show(none:Option Int)=some o46 from h)) ?_;rintro n ⟨v1',v6⟩ j46;simp only[zdG]at j46;rw[congrFun hT49 (v1',v6)];refine zab ?_;try simp only[rnA,Nat.reduceEqDiff,Nat.reduceLT,reduceCtorEq,zaj]
   cases c2:(decide (v6<(p0.length:Int)))
   ·rw[c2,cond_false]at j46;try simp only[rnA,Nat.reduceEqDiff,Nat.reduceLT,reduceCtorEq]
    replace j46:=qab j46; subst j46;exact lfj hT46 rfl (wm0 [] (by exact trivial))
   rw[c2,cond_true]at j46;obtain⟨r3,g4,j46⟩:=bind_some j46;try simp only[rnA,Nat.reduceEqDiff,Nat.reduceLT,reduceCtorEq]
   refine EvL.fn (zkq g4) rfl rfl (.cons (.lit _) (.cons (.lit _) .nil)) ?_;try simp only[rnA,Nat.reduceLT]
   obtain⟨o50,j50,j46⟩:=bind_some j46;obtain⟨T50,hT50⟩:=mkT fun a:Int=>⟨29,[(0,(fzE false (eI .u64) p0)),(1,(dU a)),(5,(dI v5)),(6,(dI v6))],[]⟩
   refine EvL.jn T50 (fun a=>a=o50) ?_ ?_
   ·refine zab ?_;try simp only[rnA,Nat.reduceEqDiff,reduceCtorEq]
    cases c5:r3
    ·rw[c5,cond_false]at j50;try simp only[rnA]
     replace j50:=qab j50; subst j50;exact lfj hT50 rfl (wm0 [] (by exact trivial))
    rw[c5,cond_true]at j50;obtain⟨x6,g7,j50⟩:=bind_some j50;try simp only[rnA,Nat.reduceEqDiff,Nat.reduceLT,reduceCtorEq,zai (n:=1) (e:=(eI .u64)) rfl g7]
    replace j50:=qab j50; subst j50;exact lfj hT50 rfl (wm0 [] (by exact trivial))
   rintro v1'' rfl;rw[congrFun hT50 v1''];refine zab ?_;try simp only[rnA,Nat.reduceEqDiff,Nat.reduceLT,reduceCtorEq]
   exact⟨(v1'',(w64 (v6+1))),j46,by rw[hT49]; exact wm0 [] (by exact trivial)⟩
  rintro v1' rfl;rw[congrFun hT46 v1'];refine zab ?_;try simp only[rnA,Nat.reduceEqDiff,Nat.reduceLT,reduceCtorEq]
  exact⟨(v1',(w64 (v5+1))),j25,by rw[hT42]; exact wm0 [] (by exact trivial)⟩
 rintro v1 rfl;rw[congrFun hT25 v1];refine zab ?_;try simp only[rnA,Nat.reduceEqDiff,Nat.reduceLT]
 replace h:=qab h; subst h;exact za6.ret rfl (.lit _)
def zbr(p0:(List Int)):Nat→Int→Option (Out Unit Bool)
 | 0,_=>none
 | n+1,v3=>(
bif (decide (v3<(p0.length:Int)))then(
(zaO p0 v3).bind fun x2=>
(zgf p0 x2).bind fun r4=>
(zfg r4 v3).bind fun r6=>
bif r6 then(
some (.ret false))
else(
zbr p0 n (w64 (v3+1))))
else(
some (.go ())))
def zcc(p0:(List Int)):Option Bool:=
((zbr p0 ((p0.length:Int) - 0+2:Int).toNat 0:Option (Out Unit Bool))).bind fun o=>match o with
| .go _=>(
some true)
| .ret r=>some r
theorem zhX{p0:(List Int)}{r:Bool}(h:zcc p0=some r):Lx.Fn mC 46 [(fzE false (eI .u64) p0)] (dB r):=by
 refine fnO (by conv=>lhs; cbv) ?_;unfold zcc at h;refine zab ?_;try simp only[rnA,Nat.reduceLT]
 obtain⟨o1,j1,h⟩:=bind_some h;obtain⟨T1,hT1⟩:=mkT fun a:Unit=>⟨18,[],[]⟩
 refine EvL.jn T1 (fun a=>o1=.go a) ?_ ?_
 ·refine zab ?_;simp only[rnA];obtain⟨T2,hT2⟩:=mkT fun a:Int=>⟨18,[(0,(fzE false (eI .u64) p0)),(3,(dI a))],[]⟩
  refine EvL.rounds (α:=Int) T2 (fun n a=>zbr p0 n a=some o1) ((p0.length:Int) - 0+2:Int).toNat 0 (by rw[hT2]; exact wm0 [] (by exact trivial)) j1 (fun _ h=>nomatch (show(none:Option (Out Unit Bool))=some o1 from h)) ?_;rintro n v3 j1;simp only[zbr]at j1;rw[congrFun hT2 v3];refine zab ?_;try simp only[rnA,Nat.reduceEqDiff,Nat.reduceLT,reduceCtorEq,zaj]
  cases c1:(decide (v3<(p0.length:Int)))
  ·rw[c1,cond_false]at j1;try simp only[rnA]
   replace j1:=qab j1; subst j1;exact lfj hT1 rfl (wm0 [] (by exact trivial))
  rw[c1,cond_true]at j1;obtain⟨x2,g3,j1⟩:=bind_some j1;obtain⟨r4,g5,j1⟩:=bind_some j1;try simp only[rnA,Nat.reduceEqDiff,Nat.reduceLT,reduceCtorEq,zai (n:=1) (e:=(eI .u64)) rfl g3]
  refine EvL.fn (zqB g5) rfl rfl (.cons (zan _ _ (fun h=>nomatch h)) (.cons (.lit _) .nil)) ?_;obtain⟨r6,g7,j1⟩:=bind_some j1;try simp only[rnA,Nat.reduceEqDiff,Nat.reduceLT,reduceCtorEq]
  refine EvL.fn (zkq g7) rfl rfl (.cons (.lit _) (.cons (.lit _) .nil)) ?_;try simp only[rnA,Nat.reduceEqDiff,Nat.reduceLT,reduceCtorEq]
  cases c8:r6
  ·rw[c8,cond_false]at j1;try simp only[rnA,Nat.reduceEqDiff,Nat.reduceLT,reduceCtorEq]
   exact⟨(w64 (v3+1)),j1,by rw[hT2]; exact wm0 [] (by exact trivial)⟩
  rw[c8,cond_true]at j1;try simp only[rnA,Nat.reduceLT]
  replace j1:=qab j1; subst j1;dsimp only at h;replace h:=qab h; subst h;exact za6.ret rfl (.lit _)
 rintro⟨⟩ rfl;dsimp only at h;rw[congrFun hT1 ()];refine zab ?_;try simp only[rnA,Nat.reduceLT]
 replace h:=qab h; subst h;exact za6.ret rfl (.lit _)
def zbd(p0:S_api_Net)(v4:Int):Nat→Int→Int→Option Int
 | 0,_,_=>none
 | n+1,v5,v6=>(
(zaO p0.nodes v4).bind fun x2=>
bif (decide (v6<(x2.parents.length:Int)))then(
(zaO x2.parents v6).bind fun x5=>
(zmV .u64 1 (IntKind.u64.wrap x5)).bind fun q7=>
zbd p0 v4 n (orI .u64 v5 q7) (w64 (v6+1)))
else(
some v5))
def zbe(p0:S_api_Net):Nat→Int→(List Int)→Option (List Int)
 | 0,_,_=>none
 | n+1,v4,l1=>(
bif (decide (v4<(p0.nodes.length:Int)))then(
((zbd p0 v4 ((((zaO p0.nodes v4).getD default).parents.length:Int) - 0+2:Int).toNat 0 0:Option Int)).bind fun v5=>
(zd5 8 l1 [v5]).bind fun y11=>
zbe p0 n (w64 (v4+1)) y11)
else(
some l1))
def zbJ(p0:S_api_Net):Option (List Int):=
((zbe p0 ((p0.nodes.length:Int) - 0+2:Int).toNat 0 []:Option (List Int))).bind fun l1=>
some l1
theorem zgt{p0:S_api_Net}{r:(List Int)}(h:zbJ p0=some r):Lx.Fn mC 47 [(.agg [(dI p0.grain),(fzE false zaa p0.nodes)])] (fzE true (eI .u64) r):=by
 refine fnO (by conv=>lhs; cbv) ?_;unfold zbJ at h;refine zab ?_;try simp only[rnA,Nat.reduceLT]
 obtain⟨o9,j9,h⟩:=bind_some h;obtain⟨T9,hT9⟩:=mkT fun a:(List Int)=>⟨43,[(3,(.sl 1 0 1 a.length none a.length))],[.gone,.grow 1 (a.map ((eI .u64).c true))]⟩
 refine EvL.jn T9 (fun a=>a=o9) ?_ ?_
 ·refine zab ?_;simp only[rnA];obtain⟨T16,hT16⟩:=mkT fun a:(Int×(List Int))=>⟨43,[(1,(.ptr 0 0)),(3,(.sl 1 0 1 a.2.length none a.2.length)),(4,(dI a.1))],[.cells [(dI p0.grain),(fzE false zaa p0.nodes)],.grow 1 (a.2.map ((eI .u64).c true))]⟩
  refine EvL.zd1 (zbu.ghost (n:=1) (k:=3) (by decide) rfl) ?_;refine EvL.rounds (α:=(Int×(List Int))) T16 (fun n a=>zbe p0 n a.1 a.2=some o9) ((p0.nodes.length:Int) - 0+2:Int).toNat (0,[]) (by rw[hT16]; exact wm0 [.k,.k] ⟨MB.cs ⟨qcG,qcG,qcG⟩,⟨MB.gs (eI .u64) true [],qcG⟩⟩) j9 (fun _ h=>nomatch (show(none:Option (List Int))=some o9 from h)) ?_;rintro n ⟨v4,l1⟩ j9;simp only[zbe]at j9;rw[congrFun hT16 (v4,l1)];refine zab ?_;try simp only[rnA,Nat.reduceEqDiff,Nat.reduceLT,zaj]
  cases c1:(decide (v4<(p0.nodes.length:Int)))
  ·rw[c1,cond_false]at j9;try simp only[rnA]
   replace j9:=qab j9; subst j9;exact lfj hT9 rfl (wm0 [.d,.k] ⟨rfl,⟨MB.gs (eI .u64) true l1,qcG⟩⟩)
  rw[c1,cond_true]at j9;try simp only[rnA,Nat.reduceLT]
  obtain⟨o17,j17,j9⟩:=bind_some j9;obtain⟨T17,hT17⟩:=mkT fun a:Int=>⟨43,[(1,(.ptr 0 0)),(3,(.sl 1 0 1 l1.length none l1.length)),(4,(dI v4)),(5,(dU a))],[.cells [(dI p0.grain),(fzE false zaa p0.nodes)],.grow 1 (l1.map ((eI .u64).c true))]⟩
  refine EvL.jn T17 (fun a=>a=o17) ?_ ?_
  ·refine zab ?_;simp only[rnA];obtain⟨T18,hT18⟩:=mkT fun a:(Int×Int)=>⟨43,[(1,(.ptr 0 0)),(3,(.sl 1 0 1 l1.length none l1.length)),(4,(dI v4)),(5,(dU a.1)),(6,(dI a.2))],[.cells [(dI p0.grain),(fzE false zaa p0.nodes)],.grow 1 (l1.map ((eI .u64).c true))]⟩
   refine EvL.rounds (α:=(Int×Int)) T18 (fun n a=>zbd p0 v4 n a.1 a.2=some o17) ((((zaO p0.nodes v4).getD default).parents.length:Int) - 0+2:Int).toNat (0,0) (by rw[hT18]; exact wm0 [.k,.k] ⟨MB.cs ⟨qcG,qcG,qcG⟩,⟨MB.gs (eI .u64) true l1,qcG⟩⟩) j17 (fun _ h=>nomatch (show(none:Option Int)=some o17 from h)) ?_;rintro n ⟨v5,v6⟩ j17;simp only[zbd]at j17;rw[congrFun hT18 (v5,v6)];refine zab ?_;obtain⟨x2,g3,j17⟩:=bind_some j17;try simp only[rnA,Nat.reduceEqDiff,Nat.reduceLT,Nat.reduceAdd,Nat.reduceLeDiff,zac,zai (n:=3) (e:=zaa) rfl g3,zaj]
   cases c4:(decide (v6<(x2.parents.length:Int)))
   ·rw[c4,cond_false]at j17;try simp only[rnA,Nat.reduceEqDiff,Nat.reduceLT,reduceCtorEq]
    replace j17:=qab j17; subst j17;exact lfj hT17 rfl (wm0 [.k,.k] ⟨MB.cs ⟨qcG,qcG,qcG⟩,⟨MB.gs (eI .u64) true l1,qcG⟩⟩)
   rw[c4,cond_true]at j17;obtain⟨x5,g6,j17⟩:=bind_some j17;obtain⟨q7,g8,j17⟩:=bind_some j17;try simp only[rnA,Nat.reduceEqDiff,Nat.reduceLT,Nat.reduceAdd,Nat.reduceLeDiff,zac,zai (n:=3) (e:=zaa) rfl g3,zai (n:=1) (e:=(eI .i64)) rfl g6,(zdS g8).1,(zdS g8).2]
   exact⟨((orI .u64 v5 q7),(w64 (v6+1))),j17,by rw[hT18]; exact wm0 [.k,.k] ⟨MB.cs ⟨qcG,qcG,qcG⟩,⟨MB.gs (eI .u64) true l1,qcG⟩⟩⟩
  rintro v5 rfl;rw[congrFun hT17 v5];refine zab ?_;obtain⟨y11,g12,j9⟩:=bind_some j9;try simp only[rnA,Nat.reduceEqDiff,Nat.reduceLT,Nat.reduceAdd,Nat.reduceLeDiff,zcY g12,(show l1.length+1=y11.length from zb5 g12),(show l1.map ((eI .u64).c true)++ [[(dU v5)]]=y11.map ((eI .u64).c true)from zcF g12 ((eI .u64).c true))]
  exact⟨((w64 (v4+1)),y11),j9,by rw[hT16]; exact wm0 [.k,.k] ⟨MB.cs ⟨qcG,qcG,qcG⟩,⟨MB.gs (eI .u64) true y11,qcG⟩⟩⟩
 rintro l1 rfl;rw[congrFun hT9 l1];refine zab ?_;try simp only[rnA,Nat.reduceEqDiff,Nat.reduceLT]
 replace h:=qab h; subst h;exact za6.ret rfl (zal (e:=(eI .u64)) (t:=true) rfl (.inr rfl) rfl rfl (fun k h=>nomatch h) (fun _=>rfl))
def zbB(p0:S_api_Net):Nat→Int→Int→Option (Out Int Bool)
 | 0,_,_=>none
 | n+1,v3,v4=>(
bif (decide (v4<(p0.nodes.length:Int)))then(
(zaO p0.nodes v4).bind fun x6=>
((bif (decide (x6.card<1))then(
some true)
else(
bif (decide (4<x6.card))then(
some true)
else(
(zc3 x6.parents (p0.nodes.length:Int)).bind fun r10=>
some (!r10))):Option Bool)).bind fun v59=>
bif v59 then(
some (.ret false))
else(
zbB p0 n (w64 (v3 * x6.card)) (w64 (v4+1))))
else(
some (.go v3)))
def zbZ(x28:(List Int))(p0:S_api_Net):Nat→Int→Int→Option (Out Int Bool)
 | 0,_,_=>none
 | n+1,v9,v10=>(
bif (decide (v10<(x28.length:Int)))then(
(((zaO x28 v10).bind fun x32=>
bif (decide (x32<0))then(
some true)
else(
some (decide (p0.grain<x32))):Option Bool)).bind fun v139=>
bif v139 then(
some (.ret false))
else(
(zaO x28 v10).bind fun x36=>
zbZ x28 p0 n (w64 (v9+x36)) (w64 (v10+1))))
else(
some (.go v9)))
def zb7(x20:S_api_Node)(p0:S_api_Net):Nat→Int→Option (Out Unit Bool)
 | 0,_=>none
 | n+1,v8=>(
bif (decide (v8<(x20.rows.length:Int)))then(
(zaO x20.rows v8).bind fun x28=>
bif ((x28.length:Int)== x20.card)then(
((zbZ x28 p0 ((x28.length:Int) - 0+2:Int).toNat 0 0:Option (Out Int Bool))).bind fun o=>match o with
| .go v9=>(
bif (v9 == p0.grain)then(
zb7 x20 p0 n (w64 (v8+1)))
else(
some (.ret false)))
| .ret r=>some (.ret r))
else(
some (.ret false)))
else(
some (.go ())))
def zb2(p0:S_api_Net):Nat→Int→Option (Out Unit Bool)
 | 0,_=>none
 | n+1,v6=>(
bif (decide (v6<(p0.nodes.length:Int)))then(
(zaO p0.nodes v6).bind fun x20=>
(zaK p0 v6).bind fun r22=>
(zcS r22).bind fun r24=>
bif ((x20.rows.length:Int)== r24)then(
((zb7 x20 p0 ((x20.rows.length:Int) - 0+2:Int).toNat 0:Option (Out Unit Bool))).bind fun o=>match o with
| .go _=>(
zb2 p0 n (w64 (v6+1)))
| .ret r=>some (.ret r))
else(
some (.ret false)))
else(
some (.go ())))
def zbq(p0:S_api_Net):Option Bool:=
((bif (decide (p0.grain<1))then(
some true)
else(
bif (decide (60<p0.grain))then(
some true)
else(
bif (decide ((p0.nodes.length:Int)<1))then(
some true)
else(
some (decide (8<(p0.nodes.length:Int)))))):Option Bool)).bind fun v30=>
bif v30 then(
some false)
else(
((zbB p0 ((p0.nodes.length:Int) - 0+2:Int).toNat 1 0:Option (Out Int Bool))).bind fun o=>match o with
| .go v3=>(
((bif (decide (1024<v3))then(
some true)
else(
(zbJ p0).bind fun r14=>
(zcc r14).bind fun r16=>
some (!r16)):Option Bool)).bind fun v71=>
bif v71 then(
some false)
else(
((zb2 p0 ((p0.nodes.length:Int) - 0+2:Int).toNat 0:Option (Out Unit Bool))).bind fun o=>match o with
| .go _=>(
some true)
| .ret r=>some r))
| .ret r=>some r)
def zgX:C:=
 .seq (rg [oW 1 0,
 oJ 2 false])
 (.seq (.seq (.scope (rg [oF 11 0 1,
 oL 12 11,
 oD 13 .lss 12 1,
 oM 14 13,
 oFg 15 0 1 14 false,
 oLg 16 15 14 false,
 oDg 17 .gtr 16 60 14 false,
 oP 18 14 17,
 oM 19 18,
 oFg 20 1 1 19 false,
 oLg 21 20 19 false,
 ⟨some 22,.len (.s 21),some (19,false)⟩,
 oDg 23 .lss 22 1 19 false,
 oP 24 19 23,
 oM 25 24,
 oFg 26 1 1 25 false,
 oLg 27 26 25 false,
 ⟨some 28,.len (.s 27),some (25,false)⟩,
 oDg 29 .gtr 28 8 25 false,
 oP 30 25 29]))
 (.cond (.s 30) (.seq (rg [oJ 2 false])
 (.ret))
 (.skip)))
 (.seq (rg [oK 3 1])
 (.seq (.seq (rg [oK 4 0])
 (.scope (.block 0 (.loop (.seq (.seq (rg [oM 31 4,
 oF 32 1 1,
 oL 33 32,
 oE 34 33,
 oB 35 .lss 31 34])
 (.cond (.s 35) (.skip)
 (.exit 0)))
 (.seq (.block 1 (.seq (rg [oF 38 1 1,
 oL 39 38,
 oM 40 4,
 oI 41 3 39 40,
 oN 42 3 41,
 ⟨some 5,.alloc [(.int .i64 0),(.slice none 0 0),(.slice none 0 0)],none⟩,
 oS 3 5 42])
 (.seq (.seq (.scope (rg [oF 43 0 5,
 oL 44 43,
 oD 45 .lss 44 1,
 oM 46 45,
 oFg 47 0 5 46 false,
 oLg 48 47 46 false,
 oDg 49 .gtr 48 4 46 false,
 oP 50 46 49,
 oM 51 50,
 oFg 52 1 5 51 false,
 oLg 53 52 51 false,
 oFg 54 1 1 51 false,
 oLg 55 54 51 false,
 ⟨some 56,.len (.s 55),some (51,false)⟩,
 ⟨some 57,.call 45 [(.s 53),(.s 56)],some (51,false)⟩,
 ⟨some 58,.un .not (.s 57),some (51,false)⟩,
 oP 59 51 58]))
 (.cond (.s 59) (.seq (rg [oJ 2 false])
 (.ret))
 (.skip)))
 (rg [oM 60 3,
 oF 61 0 5,
 oL 62 61,
 oB 63 .mul 60 62,
 oM 3 63]))))
 (rg [oM 36 4,
 oD 37 .add 36 1,
 oM 4 37])))))))
 (.seq (.seq (.scope (rg [oM 64 3,
 oD 65 .gtr 64 1024,
 oM 66 65,
 ⟨some 67,.load (some 2) (.s 1),some (66,false)⟩,
 ⟨some 68,.call 47 [(.s 67)],some (66,false)⟩,
 ⟨some 69,.call 46 [(.s 68)],some (66,false)⟩,
 ⟨some 70,.un .not (.s 69),some (66,false)⟩,
 oP 71 66 70]))
 (.cond (.s 71) (.seq (rg [oJ 2 false])
 (.ret))
 (.skip)))
 (.seq (.seq (rg [oK 6 0])
 (.scope (.block 2 (.loop (.seq (.seq (rg [oM 72 6,
 oF 73 1 1,
 oL 74 73,
 oE 75 74,
 oB 76 .lss 72 75])
 (.cond (.s 76) (.skip)
 (.exit 2)))
 (.seq (.block 3 (.seq (rg [oF 79 1 1,
 oL 80 79,
 oM 81 6,
 oI 82 3 80 81,
 oN 83 3 82,
 ⟨some 7,.alloc [(.int .i64 0),(.slice none 0 0),(.slice none 0 0)],none⟩,
 oS 3 7 83])
 (.seq (.seq (.reg true true [oF 84 2 7,
 oL 85 84,
 oE 86 85,
 oN 87 2 1,
 oM 88 6,
 oV 89 49 87 88,
 oU 90 48 89,
 oB 91 .neq 86 90])
 (.cond (.s 91) (.seq (rg [oJ 2 false])
 (.ret))
 (.skip)))
 (.seq (rg [oK 8 0])
 (.scope (.block 4 (.loop (.seq (.seq (rg [oM 92 8,
 oF 93 2 7,
 oL 94 93,
 oE 95 94,
 oB 96 .lss 92 95])
 (.cond (.s 96) (.skip)
 (.exit 4)))
 (.seq (.block 5 (.seq (.seq (.reg true false [oF 99 2 7,
 oL 100 99,
 oM 101 8,
 oI 102 1 100 101,
 oL 103 102,
 oE 104 103,
 oF 105 0 7,
 oL 106 105,
 oB 107 .neq 104 106])
 (.cond (.s 107) (.seq (rg [oJ 2 false])
 (.ret))
 (.skip)))
 (.seq (rg [oK 9 0])
 (.seq (.seq (rg [oK 10 0])
 (.scope (.block 6 (.loop (.seq (.seq (rg [oM 108 10,
 oF 109 2 7,
 oL 110 109,
 oM 111 8,
 oI 112 1 110 111,
 oL 113 112,
 oE 114 113,
 oB 115 .lss 108 114])
 (.cond (.s 115) (.skip)
 (.exit 6)))
 (.seq (.block 7 (.seq (.seq (.scope (.reg true false [oF 118 2 7,
 oL 119 118,
 oM 120 8,
 oI 121 1 119 120,
 oL 122 121,
 oM 123 10,
 oI 124 1 122 123,
 oL 125 124,
 oD 126 .lss 125 0,
 oM 127 126,
 oFg 128 2 7 127 false,
 oLg 129 128 127 false,
 oMg 130 8 127 false,
 ⟨some 131,.idxS 1 (.s 129) (.s 130),some (127,false)⟩,
 oLg 132 131 127 false,
 oMg 133 10 127 false,
 ⟨some 134,.idxS 1 (.s 132) (.s 133),some (127,false)⟩,
 oLg 135 134 127 false,
 oFg 136 0 1 127 false,
 oLg 137 136 127 false,
 ⟨some 138,.bin .gtr (.s 135) (.s 137),some (127,false)⟩,
 oP 139 127 138]))
 (.cond (.s 139) (.seq (rg [oJ 2 false])
 (.ret))
 (.skip)))
 (rg [oM 140 9,
 oF 141 2 7,
 oL 142 141,
 oM 143 8,
 oI 144 1 142 143,
 oL 145 144,
 oM 146 10,
 oI 147 1 145 146,
 oL 148 147,
 oB 149 .add 140 148,
 oM 9 149])))
 (rg [oM 116 10,
 oD 117 .add 116 1,
 oM 10 117])))))))
 (.seq (rg [oM 150 9,
 oF 151 0 1,
 oL 152 151,
 oB 153 .neq 150 152])
 (.cond (.s 153) (.seq (rg [oJ 2 false])
 (.ret))
 (.skip)))))))
 (rg [oM 97 8,
 oD 98 .add 97 1,
 oM 8 98]))))))))))
 (rg [oM 77 6,
 oD 78 .add 77 1,
 oM 6 78])))))))
 (.seq (rg [oJ 2 true])
 (.ret)))))))
theorem zjI:zlz mC 8=some (154,zgX,[.tmp 2],false):=zc8 (by kernel_rfl)
theorem zgE{p0:S_api_Net}{r:Bool}(h:zbq p0=some r):Lx.Fn mC 8 [(.agg [(dI p0.grain),(fzE false zaa p0.nodes)])] (dB r):=by
 refine Fn.of zjI (zcH rfl) (qah rfl) ?_;unfold zbq at h;simp only[zgX,zfw];refine zab ?_;try simp only[rnA,Nat.reduceLT]
 obtain⟨o1,j1,h⟩:=bind_some h;obtain⟨T1,hT1⟩:=mkT fun a:Bool=>⟨154,[(1,(.ptr 0 0)),(30,(dB a))],[.cells [(dI p0.grain),(fzE false zaa p0.nodes)]]⟩
 refine EvL.jn T1 (fun a=>a=o1) ?_ ?_
 ·refine zab ?_;try simp only[rnA,Nat.reduceEqDiff,Nat.reduceLT,reduceCtorEq]
  cases c1:(decide (p0.grain<1))
  ·rw[c1,cond_false]at j1;try simp only[rnA,Nat.reduceEqDiff,Nat.reduceLT,reduceCtorEq]
   cases c2:(decide (60<p0.grain))
   ·rw[c2,cond_false]at j1;try simp only[rnA,Nat.reduceEqDiff,Nat.reduceLT,reduceCtorEq,zaj]
    cases c3:(decide ((p0.nodes.length:Int)<1))
    ·rw[c3,cond_false]at j1;try simp only[rnA,Nat.reduceEqDiff,Nat.reduceLT,reduceCtorEq,zaj]
     replace j1:=qab j1; subst j1;exact lfj hT1 rfl (wm0 [.k] ⟨MB.cs ⟨qcG,qcG,qcG⟩,qcG⟩)
    rw[c3,cond_true]at j1;try simp only[rnA,Nat.reduceEqDiff,Nat.reduceLT,reduceCtorEq]
    replace j1:=qab j1; subst j1;exact lfj hT1 rfl (wm0 [.k] ⟨MB.cs ⟨qcG,qcG,qcG⟩,qcG⟩)
   rw[c2,cond_true]at j1;try simp only[rnA,Nat.reduceEqDiff,Nat.reduceLT,reduceCtorEq]
   replace j1:=qab j1; subst j1;exact lfj hT1 rfl (wm0 [.k] ⟨MB.cs ⟨qcG,qcG,qcG⟩,qcG⟩)
  rw[c1,cond_true]at j1;try simp only[rnA,Nat.reduceEqDiff,Nat.reduceLT,reduceCtorEq]
  replace j1:=qab j1; subst j1;exact lfj hT1 rfl (wm0 [.k] ⟨MB.cs ⟨qcG,qcG,qcG⟩,qcG⟩)
 rintro v30 rfl;rw[congrFun hT1 v30];refine zab ?_;try simp only[rnA,Nat.reduceEqDiff]
 cases c4:v30
 ·rw[c4,cond_false]at h;try simp only[rnA,Nat.reduceLT]
  obtain⟨o5,j5,h⟩:=bind_some h;obtain⟨T5,hT5⟩:=mkT fun a:Int=>⟨154,[(1,(.ptr 0 0)),(3,(dI a))],[.cells [(dI p0.grain),(fzE false zaa p0.nodes)]]⟩
  refine EvL.jn T5 (fun a=>o5=.go a) ?_ ?_
  ·refine zab ?_;simp only[rnA];obtain⟨T8,hT8⟩:=mkT fun a:(Int×Int)=>⟨154,[(1,(.ptr 0 0)),(3,(dI a.1)),(4,(dI a.2))],[.cells [(dI p0.grain),(fzE false zaa p0.nodes)]]⟩
   refine EvL.rounds (α:=(Int×Int)) T8 (fun n a=>zbB p0 n a.1 a.2=some o5) ((p0.nodes.length:Int) - 0+2:Int).toNat (1,0) (by rw[hT8]; exact wm0 [.k] ⟨MB.cs ⟨qcG,qcG,qcG⟩,qcG⟩) j5 (fun _ h=>nomatch (show(none:Option (Out Int Bool))=some o5 from h)) ?_;rintro n ⟨v3,v4⟩ j5;simp only[zbB]at j5;rw[congrFun hT8 (v3,v4)];refine zab ?_;try simp only[rnA,Nat.reduceEqDiff,Nat.reduceLT,zaj]
   cases c5:(decide (v4<(p0.nodes.length:Int)))
   ·rw[c5,cond_false]at j5;try simp only[rnA]
    replace j5:=qab j5; subst j5;exact lfj hT5 rfl (wm0 [.k] ⟨MB.cs ⟨qcG,qcG,qcG⟩,qcG⟩)
   rw[c5,cond_true]at j5;obtain⟨x6,g7,j5⟩:=bind_some j5;try simp only[rnA,Nat.reduceEqDiff,Nat.reduceLT,Nat.reduceAdd,Nat.reduceLeDiff,zac,zai (n:=3) (e:=zaa) rfl g7]
   obtain⟨o9,j9,j5⟩:=bind_some j5;obtain⟨T9,hT9⟩:=mkT fun a:Bool=>⟨154,[(1,(.ptr 0 0)),(3,(dI v3)),(4,(dI v4)),(5,(.ptr 1 0)),(59,(dB a))],[.cells [(dI p0.grain),(fzE false zaa p0.nodes)],.cells [(dI x6.card),(fzE false (eI .i64) x6.parents),(fzE false (eL (eI .i64)) x6.rows)]]⟩
   refine EvL.jn T9 (fun a=>a=o9) ?_ ?_
   ·refine zab ?_;try simp only[rnA,Nat.reduceEqDiff,Nat.reduceLT]
    cases c8:(decide (x6.card<1))
    ·rw[c8,cond_false]at j9;try simp only[rnA,Nat.reduceEqDiff,Nat.reduceLT]
     cases c9:(decide (4<x6.card))
     ·rw[c9,cond_false]at j9;obtain⟨r10,g11,j9⟩:=bind_some j9;try simp only[rnA,Nat.reduceEqDiff,Nat.reduceLT,zaj]
      refine EvL.fn (zjP g11) rfl rfl (.cons (zan _ _ (fun h=>nomatch h)) (.cons (.lit _) .nil)) ?_;try simp only[rnA,Nat.reduceEqDiff,Nat.reduceLT]
      replace j9:=qab j9; subst j9;exact lfj hT9 rfl (wm0 [.k,.k] ⟨MB.cs ⟨qcG,qcG,qcG⟩,⟨MB.cs ⟨qcG,qcG,qcG,qcG⟩,qcG⟩⟩)
     rw[c9,cond_true]at j9;try simp only[rnA,Nat.reduceEqDiff,Nat.reduceLT]
     refine EvL.skip rfl ?_;try simp only[rnA,Nat.reduceEqDiff,Nat.reduceLT]
     replace j9:=qab j9; subst j9;exact lfj hT9 rfl (wm0 [.k,.k] ⟨MB.cs ⟨qcG,qcG,qcG⟩,⟨MB.cs ⟨qcG,qcG,qcG,qcG⟩,qcG⟩⟩)
    rw[c8,cond_true]at j9;try simp only[rnA,Nat.reduceEqDiff,Nat.reduceLT]
    refine EvL.skip rfl ?_;try simp only[rnA,Nat.reduceEqDiff,Nat.reduceLT]
    replace j9:=qab j9; subst j9;exact lfj hT9 rfl (wm0 [.k,.k] ⟨MB.cs ⟨qcG,qcG,qcG⟩,⟨MB.cs ⟨qcG,qcG,qcG,qcG⟩,qcG⟩⟩)
   rintro v59 rfl;rw[congrFun hT9 v59];refine zab ?_;try simp only[rnA,Nat.reduceEqDiff]
   cases c12:v59
   ·rw[c12,cond_false]at j5;try simp only[rnA,Nat.reduceEqDiff,Nat.reduceLT]
    exact⟨((w64 (v3 * x6.card)),(w64 (v4+1))),j5,by rw[hT8]; exact wm0 [.k] ⟨MB.cs ⟨qcG,qcG,qcG⟩,qcG⟩⟩
   rw[c12,cond_true]at j5;try simp only[rnA,Nat.reduceLT]
   replace j5:=qab j5; subst j5;dsimp only at h;replace h:=qab h; subst h;exact za6.ret rfl (.lit _)
  rintro v3 rfl;dsimp only at h;rw[congrFun hT5 v3];refine zab ?_;try simp only[rnA]
  obtain⟨o10,j10,h⟩:=bind_some h;obtain⟨T10,hT10⟩:=mkT fun a:Bool=>⟨154,[(1,(.ptr 0 0)),(71,(dB a))],[.cells [(dI p0.grain),(fzE false zaa p0.nodes)]]⟩
  refine EvL.jn T10 (fun a=>a=o10) ?_ ?_
  ·refine zab ?_;try simp only[rnA,Nat.reduceEqDiff,Nat.reduceLT]
   cases c13:(decide (1024<v3))
   ·rw[c13,cond_false]at j10;obtain⟨r14,g15,j10⟩:=bind_some j10;try simp only[rnA,Nat.reduceEqDiff,Nat.reduceLT,Nat.reduceAdd,Nat.reduceLeDiff]
    refine EvL.fn (zgt g15) rfl rfl (.cons (.zcf (.cons (.lit _) (.cons (zan _ _ (fun h=>nomatch h)) .nil))) .nil) ?_;obtain⟨r16,g17,j10⟩:=bind_some j10;try simp only[rnA,Nat.reduceLT]
    refine EvL.fn (zhX g17) rfl rfl (.cons (zan _ _ (fun h=>nomatch h)) .nil) ?_;try simp only[rnA,Nat.reduceEqDiff,Nat.reduceLT]
    replace j10:=qab j10; subst j10;exact lfj hT10 rfl (wm0 [.k] ⟨MB.cs ⟨qcG,qcG,qcG⟩,qcG⟩)
   rw[c13,cond_true]at j10;try simp only[rnA,Nat.reduceLT]
   refine EvL.skip rfl ?_;try simp only[rnA,Nat.reduceLT]
   refine EvL.skip rfl ?_;try simp only[rnA,Nat.reduceEqDiff,Nat.reduceLT]
   replace j10:=qab j10; subst j10;exact lfj hT10 rfl (wm0 [.k] ⟨MB.cs ⟨qcG,qcG,qcG⟩,qcG⟩)
  rintro v71 rfl;rw[congrFun hT10 v71];refine zab ?_;try simp only[rnA,Nat.reduceEqDiff]
  cases c18:v71
  ·rw[c18,cond_false]at h;try simp only[rnA,Nat.reduceLT]
   obtain⟨o161,j161,h⟩:=bind_some h;obtain⟨T161,hT161⟩:=mkT fun a:Unit=>⟨154,[],[]⟩
   refine EvL.jn T161 (fun a=>o161=.go a) ?_ ?_
   ·refine zab ?_;simp only[rnA];obtain⟨T262,hT262⟩:=mkT fun a:Int=>⟨154,[(1,(.ptr 0 0)),(6,(dI a))],[.cells [(dI p0.grain),(fzE false zaa p0.nodes)]]⟩
    refine EvL.rounds (α:=Int) T262 (fun n a=>zb2 p0 n a=some o161) ((p0.nodes.length:Int) - 0+2:Int).toNat 0 (by rw[hT262]; exact wm0 [.k] ⟨MB.cs ⟨qcG,qcG,qcG⟩,qcG⟩) j161 (fun _ h=>nomatch (show(none:Option (Out Unit Bool))=some o161 from h)) ?_;rintro n v6 j161;simp only[zb2]at j161;rw[congrFun hT262 v6];refine zab ?_;try simp only[rnA,Nat.reduceEqDiff,Nat.reduceLT,zaj]
    cases c19:(decide (v6<(p0.nodes.length:Int)))
    ·rw[c19,cond_false]at j161;try simp only[rnA]
     replace j161:=qab j161; subst j161;exact lfj hT161 rfl (wm0 [] (by exact trivial))
    rw[c19,cond_true]at j161;obtain⟨x20,g21,j161⟩:=bind_some j161;obtain⟨r22,g23,j161⟩:=bind_some j161;try simp only[rnA,Nat.reduceEqDiff,Nat.reduceLT,Nat.reduceAdd,Nat.reduceLeDiff,zac,zai (n:=3) (e:=zaa) rfl g21,zaj]
    refine EvL.fn (zdW g23) rfl rfl (.cons (.zcf (.cons (.lit _) (.cons (zan _ _ (fun h=>nomatch h)) .nil))) (.cons (.lit _) .nil)) ?_;obtain⟨r24,g25,j161⟩:=bind_some j161;try simp only[rnA,Nat.reduceLT]
    refine EvL.fn (zfv g25) rfl rfl (.cons (zan _ _ (fun h=>nomatch h)) .nil) ?_;try simp only[rnA,Nat.reduceEqDiff,Nat.reduceLT]
    cases c26:((x20.rows.length:Int)== r24)
    ·rw[c26,cond_false]at j161;try simp only[rnA,Nat.reduceLT]
     replace j161:=qab j161; subst j161;dsimp only at h;replace h:=qab h; subst h;exact za6.ret rfl (.lit _)
    rw[c26,cond_true]at j161;try simp only[rnA,Nat.reduceLT]
    obtain⟨o287,j287,j161⟩:=bind_some j161;obtain⟨T287,hT287⟩:=mkT fun a:Unit=>⟨154,[(1,(.ptr 0 0)),(6,(dI v6))],[.cells [(dI p0.grain),(fzE false zaa p0.nodes)]]⟩
    refine EvL.jn T287 (fun a=>o287=.go a) ?_ ?_
    ·refine zab ?_;simp only[rnA];obtain⟨T304,hT304⟩:=mkT fun a:Int=>⟨154,[(1,(.ptr 0 0)),(6,(dI v6)),(7,(.ptr 1 0)),(8,(dI a))],[.cells [(dI p0.grain),(fzE false zaa p0.nodes)],.cells [(dI x20.card),(fzE false (eI .i64) x20.parents),(fzE false (eL (eI .i64)) x20.rows)]]⟩
     refine EvL.rounds (α:=Int) T304 (fun n a=>zb7 x20 p0 n a=some o287) ((x20.rows.length:Int) - 0+2:Int).toNat 0 (by rw[hT304]; exact wm0 [.k,.k] ⟨MB.cs ⟨qcG,qcG,qcG⟩,⟨MB.cs ⟨qcG,qcG,qcG,qcG⟩,qcG⟩⟩) j287 (fun _ h=>nomatch (show(none:Option (Out Unit Bool))=some o287 from h)) ?_;rintro n v8 j287;simp only[zb7]at j287;rw[congrFun hT304 v8];refine zab ?_;try simp only[rnA,Nat.reduceEqDiff,Nat.reduceLT,zaj]
     cases c27:(decide (v8<(x20.rows.length:Int)))
     ·rw[c27,cond_false]at j287;try simp only[rnA,Nat.reduceEqDiff,Nat.reduceLT]
      replace j287:=qab j287; subst j287;exact lfj hT287 rfl (wm0 [.k] ⟨MB.cs ⟨qcG,qcG,qcG⟩,qcG⟩)
     rw[c27,cond_true]at j287;obtain⟨x28,g29,j287⟩:=bind_some j287;try simp only[rnA,Nat.reduceEqDiff,Nat.reduceLT,zai (n:=1) (e:=(eL (eI .i64))) rfl g29,zaj]
     cases c30:((x28.length:Int)== x20.card)
     ·rw[c30,cond_false]at j287;try simp only[rnA,Nat.reduceLT]
      replace j287:=qab j287; subst j287;dsimp only at j161;replace j161:=qab j161; subst j161;dsimp only at h;replace h:=qab h; subst h;exact za6.ret rfl (.lit _)
     rw[c30,cond_true]at j287;try simp only[rnA,Nat.reduceLT]
     obtain⟨o308,j308,j287⟩:=bind_some j287;obtain⟨T308,hT308⟩:=mkT fun a:Int=>⟨154,[(1,(.ptr 0 0)),(6,(dI v6)),(7,(.ptr 1 0)),(8,(dI v8)),(9,(dI a))],[.cells [(dI p0.grain),(fzE false zaa p0.nodes)],.cells [(dI x20.card),(fzE false (eI .i64) x20.parents),(fzE false (eL (eI .i64)) x20.rows)]]⟩
     refine EvL.jn T308 (fun a=>o308=.go a) ?_ ?_
     ·refine zab ?_;simp only[rnA];obtain⟨T311,hT311⟩:=mkT fun a:(Int×Int)=>⟨154,[(1,(.ptr 0 0)),(6,(dI v6)),(7,(.ptr 1 0)),(8,(dI v8)),(9,(dI a.1)),(10,(dI a.2))],[.cells [(dI p0.grain),(fzE false zaa p0.nodes)],.cells [(dI x20.card),(fzE false (eI .i64) x20.parents),(fzE false (eL (eI .i64)) x20.rows)]]⟩
      refine EvL.rounds (α:=(Int×Int)) T311 (fun n a=>zbZ x28 p0 n a.1 a.2=some o308) ((x28.length:Int) - 0+2:Int).toNat (0,0) (by rw[hT311]; exact wm0 [.k,.k] ⟨MB.cs ⟨qcG,qcG,qcG⟩,⟨MB.cs ⟨qcG,qcG,qcG,qcG⟩,qcG⟩⟩) j308 (fun _ h=>nomatch (show(none:Option (Out Int Bool))=some o308 from h)) ?_;rintro n ⟨v9,v10⟩ j308;simp only[zbZ]at j308;rw[congrFun hT311 (v9,v10)];refine zab ?_;try simp only[rnA,Nat.reduceEqDiff,Nat.reduceLT,zai (n:=1) (e:=(eL (eI .i64))) rfl g29,zaj]
      cases c31:(decide (v10<(x28.length:Int)))
      ·rw[c31,cond_false]at j308;try simp only[rnA,Nat.reduceEqDiff,Nat.reduceLT]
       replace j308:=qab j308; subst j308;exact lfj hT308 rfl (wm0 [.k,.k] ⟨MB.cs ⟨qcG,qcG,qcG⟩,⟨MB.cs ⟨qcG,qcG,qcG,qcG⟩,qcG⟩⟩)
      rw[c31,cond_true]at j308;try simp only[rnA]
      obtain⟨o312,j312,j308⟩:=bind_some j308;obtain⟨T312,hT312⟩:=mkT fun a:Bool=>⟨154,[(1,(.ptr 0 0)),(6,(dI v6)),(7,(.ptr 1 0)),(8,(dI v8)),(9,(dI v9)),(10,(dI v10)),(139,(dB a))],[.cells [(dI p0.grain),(fzE false zaa p0.nodes)],.cells [(dI x20.card),(fzE false (eI .i64) x20.parents),(fzE false (eL (eI .i64)) x20.rows)]]⟩
      refine EvL.jn T312 (fun a=>a=o312) ?_ ?_
      ·refine zab ?_;obtain⟨x32,g33,j312⟩:=bind_some j312;try simp only[rnA,Nat.reduceEqDiff,Nat.reduceLT,zai (n:=1) (e:=(eL (eI .i64))) rfl g29,zai (n:=1) (e:=(eI .i64)) rfl g33]
       cases c34:(decide (x32<0))
       ·rw[c34,cond_false]at j312;try simp only[rnA,Nat.reduceEqDiff,Nat.reduceLT,zai (n:=1) (e:=(eL (eI .i64))) rfl g29,zai (n:=1) (e:=(eI .i64)) rfl g33]
        replace j312:=qab j312; subst j312;exact lfj hT312 rfl (wm0 [.k,.k] ⟨MB.cs ⟨qcG,qcG,qcG⟩,⟨MB.cs ⟨qcG,qcG,qcG,qcG⟩,qcG⟩⟩)
       rw[c34,cond_true]at j312;try simp only[rnA,Nat.reduceEqDiff,Nat.reduceLT]
       replace j312:=qab j312; subst j312;exact lfj hT312 rfl (wm0 [.k,.k] ⟨MB.cs ⟨qcG,qcG,qcG⟩,⟨MB.cs ⟨qcG,qcG,qcG,qcG⟩,qcG⟩⟩)
      rintro v139 rfl;rw[congrFun hT312 v139];refine zab ?_;try simp only[rnA,Nat.reduceEqDiff]
      cases c35:v139
      ·rw[c35,cond_false]at j308;obtain⟨x36,g37,j308⟩:=bind_some j308;try simp only[rnA,Nat.reduceEqDiff,Nat.reduceLT,zai (n:=1) (e:=(eL (eI .i64))) rfl g29,zai (n:=1) (e:=(eI .i64)) rfl g37]
       exact⟨((w64 (v9+x36)),(w64 (v10+1))),j308,by rw[hT311]; exact wm0 [.k,.k] ⟨MB.cs ⟨qcG,qcG,qcG⟩,⟨MB.cs ⟨qcG,qcG,qcG,qcG⟩,qcG⟩⟩⟩
      rw[c35,cond_true]at j308;try simp only[rnA,Nat.reduceLT]
      replace j308:=qab j308; subst j308;dsimp only at j287;replace j287:=qab j287; subst j287;dsimp only at j161;replace j161:=qab j161; subst j161;dsimp only at h;replace h:=qab h; subst h;exact za6.ret rfl (.lit _)
     rintro v9 rfl;dsimp only at j287;rw[congrFun hT308 v9];refine zab ?_;try simp only[rnA,Nat.reduceEqDiff,Nat.reduceLT]
     cases c38:(v9 == p0.grain)
     ·rw[c38,cond_false]at j287;try simp only[rnA,Nat.reduceLT]
      replace j287:=qab j287; subst j287;dsimp only at j161;replace j161:=qab j161; subst j161;dsimp only at h;replace h:=qab h; subst h;exact za6.ret rfl (.lit _)
     rw[c38,cond_true]at j287;try simp only[rnA,Nat.reduceEqDiff,Nat.reduceLT]
     exact⟨(w64 (v8+1)),j287,by rw[hT304]; exact wm0 [.k,.k] ⟨MB.cs ⟨qcG,qcG,qcG⟩,⟨MB.cs ⟨qcG,qcG,qcG,qcG⟩,qcG⟩⟩⟩
    rintro⟨⟩ rfl;dsimp only at j161;rw[congrFun hT287 ()];refine zab ?_;try simp only[rnA,Nat.reduceEqDiff,Nat.reduceLT]
    exact⟨(w64 (v6+1)),j161,by rw[hT262]; exact wm0 [.k] ⟨MB.cs ⟨qcG,qcG,qcG⟩,qcG⟩⟩
   rintro⟨⟩ rfl;dsimp only at h;rw[congrFun hT161 ()];refine zab ?_;try simp only[rnA,Nat.reduceLT]
   replace h:=qab h; subst h;exact za6.ret rfl (.lit _)
  rw[c18,cond_true]at h;try simp only[rnA,Nat.reduceLT]
  replace h:=qab h; subst h;exact za6.ret rfl (.lit _)
 rw[c4,cond_true]at h;try simp only[rnA,Nat.reduceLT]
 replace h:=qab h; subst h;exact za6.ret rfl (.lit _)
def zd8(N:Nat)(p0:S_api_Net)(p1:S_haruspexref05_Draft)(p2:S_haruspexref05_Bend):Option A3_S_api_Net:=
(ze4 p0).bind fun r1=>
(zbz N p1).bind fun r3=>
(zbz N p1).bind fun r5=>
(ziz p2 r5).bind fun r7=>
some (A3_S_api_Net.mk r1 r3 r7)
theorem zlt{N:Nat}{p0:S_api_Net}{p1:S_haruspexref05_Draft}{p2:S_haruspexref05_Bend}{r:A3_S_api_Net}(h:zd8 N p0 p1 p2=some r):Lx.FnA mC 6 [(.agg [(dI p0.grain),(fzE false zaa p0.nodes)]),(.agg [(dU8 p1.grain),(fzE false zae p1.nodes),(fzE false (eI .u8) p1.order)]),(.agg [(dU8 p2.what),(dU8 p2.at_),(dU8 p2.row),(dI p2.n)])] (.agg [(dI r.a0.grain),(fzE false zaa r.a0.nodes),(dI r.a1.grain),(fzE false zaa r.a1.nodes),(dI r.a2.grain),(fzE false zaa r.a2.nodes)]):=by
 refine zwK (by conv=>lhs; cbv) ?_;unfold zd8 at h;refine zab ?_;obtain⟨r1,g2,h⟩:=bind_some h;try simp only[rnA,Nat.reduceEqDiff,reduceIte,Nat.reduceLT,Nat.reduceAdd,Nat.reduceLeDiff,Nat.reduceMul,Nat.reduceSub,Int.reduceLE,Int.reduceLT,Int.reduceBEq,Nat.reduceBEq,reduceCtorEq,zac,zao,zat,zaA,zaD,zbi,zc6]
 refine EvL.fnS (znI g2) rfl rfl (.cons (Mzs.agg (.cons (.lit _) (.cons (zex _ _ (fun h=>by cases h<;>contradiction)) .nil))) .nil) ⟨⟨qcG,(zby _ _),qcG⟩,qcG⟩ ⟨qcG,(zby _ _),qcG⟩ ?_;obtain⟨r3,g4,h⟩:=bind_some h;try simp only[rnA,Nat.reduceEqDiff,reduceIte,Nat.reduceLT,Nat.reduceAdd,Nat.reduceLeDiff,Nat.reduceMul,Nat.reduceSub,Int.reduceLE,Int.reduceLT,Int.reduceBEq,Nat.reduceBEq,reduceCtorEq,zac,zao,zat,zaA,zaD,zbi]
 refine EvL.fn (zez g4) rfl rfl (.cons (.zcf (.cons (.lit _) (.cons (zan _ _ (fun h=>nomatch h)) (.cons (zan _ _ (fun h=>nomatch h)) .nil)))) .nil) ?_;obtain⟨r5,g6,h⟩:=bind_some h;try simp only[rnA,Nat.reduceEqDiff,reduceIte,Nat.reduceLT,Nat.reduceAdd,Nat.reduceLeDiff,Nat.reduceMul,Nat.reduceSub,Int.reduceLE,Int.reduceLT,Int.reduceBEq,Nat.reduceBEq,reduceCtorEq,zac,zao,zat,zaA,zaD,zbi]
 refine EvL.fn (zez g6) rfl rfl (.cons (.zcf (.cons (.lit _) (.cons (zan _ _ (fun h=>nomatch h)) (.cons (zan _ _ (fun h=>nomatch h)) .nil)))) .nil) ?_;obtain⟨r7,g8,h⟩:=bind_some h;try simp only[rnA,Nat.reduceEqDiff,reduceIte,Nat.reduceLT,Nat.reduceAdd,Nat.reduceLeDiff,Nat.reduceMul,Nat.reduceSub,Int.reduceLE,Int.reduceLT,Int.reduceBEq,Nat.reduceBEq,reduceCtorEq,zac,zao,zat,zaA,zaD,zbi]
 refine EvL.fn (zps g8) rfl rfl (.cons (.zcf (.cons (.lit _) (.cons (.lit _) (.cons (.lit _) (.cons (.lit _) .nil))))) (.cons (.zcf (.cons (.lit _) (.cons (zan _ _ (fun h=>nomatch h)) .nil))) .nil)) ?_;try simp only[rnA,Nat.reduceEqDiff,reduceIte,Nat.reduceLT,Nat.reduceAdd,Nat.reduceLeDiff,Nat.reduceMul,Nat.reduceSub,Int.reduceLE,Int.reduceLT,Int.reduceBEq,Nat.reduceBEq,reduceCtorEq,zac,zao,zat,zaA,zaD,zbi]
 replace h:=qab h; subst h;exact zlJ.ret rfl (.zcf (.cons (.lit _) (.cons (zan _ _ (fun h=>nomatch h)) (.cons (.lit _) (.cons (zan _ _ (fun h=>nomatch h)) (.cons (.lit _) (.cons (zan _ _ (fun h=>nomatch h)) .nil)))))))
end Go.Dc
