/-
 What r05_Draft_Net computes. Conditions: none.
-/
import Derived.Test.YtnfgibomhkbcpaaNrJ5
set_option linter.unusedSimpArgs false
set_option linter.unusedVariables false
set_option maxRecDepth 100000
set_option maxHeartbeats 4000000
namespace Go.Dc
open Go Go.Mx Go.Lx Go.Proofs
def zbi(p0:S_haruspexref05_Draft)(r5:(List Int)):Nat→Int→Int→(List S_api_Node)→Option (List S_api_Node)
 | 0,_,_,_=>none
 | n+1,v6,v7,l2=>(
bif (decide (v7<(zc2 (zcY (p0.nodes.length:Int) 1) 5)))then(
((bif (decide (v7<(p0.nodes.length:Int)))then(
(za5 p0.nodes v7).bind fun x9=>
some (x9.card,x9.parents,x9.w))
else(
some (0,0,[])):Option ((Int×Int×(List Int))))).bind fun o=>match o with
|(b4_0,b4_1,b4_2)=>(
(zsS .i64 (w64 (v6 * (w64 (2+(w64 (b4_0.tmod 2)))))) (IntKind.u64.wrap (w64 ((w64 ((zc2 (zcY (p0.nodes.length:Int) 1) 5) - 1)) - v7)))).bind fun q11=>
((bif (decide (100<q11))then(
some 2)
else(
some (w64 (2+(w64 (b4_0.tmod 2))))):Option Int)).bind fun v9=>
(za5 r5 v7).bind fun x14=>
(za5 l2 x14).bind fun x16=>
(zeP l2 x14 (S_api_Node.mk v9 x16.parents x16.rows)).bind fun y18=>
zbi p0 r5 n (w64 (v6 * v9)) (w64 (v7+1)) y18))
else(
some l2))
def zbB(N:Nat)(p0:S_haruspexref05_Draft)(r5:(List Int)):Nat→Int→(List S_api_Node)→Option (List S_api_Node)
 | 0,_,_=>none
 | n+1,v10,l2'=>(
bif (decide (v10<(zc2 (zcY (p0.nodes.length:Int) 1) 5)))then(
((bif (decide (v10<(p0.nodes.length:Int)))then(
(za5 p0.nodes v10).bind fun x22=>
some (x22.card,x22.parents,x22.w))
else(
some (0,0,[])):Option ((Int×Int×(List Int))))).bind fun o=>match o with
|(b4_0,b4_1,b4_2)=>(
(za5 r5 v10).bind fun x24=>
(zmF r5 v10 x24 (zc2 (zcY (p0.nodes.length:Int) 1) 5) b4_1 l2').bind fun y26=>
(znu N (w64 (1+(w64 (p0.grain.tmod 60)))) x24 b4_2 y26).bind fun y28=>
zbB N p0 r5 n (w64 (v10+1)) y28))
else(
some l2'))
def zce(N:Nat)(p0:S_haruspexref05_Draft):Option S_api_Net:=
(zd5 56 (zc2 (zcY (p0.nodes.length:Int) 1) 5) (S_api_Node.mk 0 [] [])).bind fun y1=>
(zd5 1 (zc2 (zcY (p0.nodes.length:Int) 1) 5) 0).bind fun y3=>
(za4 N (S_haruspexref02_Draft.mk y3 0 p0.order)).bind fun r5=>
((zbi p0 r5 ((zc2 (zcY (p0.nodes.length:Int) 1) 5) - 0+2:Int).toNat 1 0 y1:Option (List S_api_Node))).bind fun l2=>
((zbB N p0 r5 ((zc2 (zcY (p0.nodes.length:Int) 1) 5) - 0+2:Int).toNat 0 l2:Option (List S_api_Node))).bind fun l2'=>
some (S_api_Net.mk (w64 (1+(w64 (p0.grain.tmod 60)))) l2')
def zeR:C:=
 .seq (rg [oW 1 0,
 ⟨some 2,.alloc [(.int .i64 0),(.slice none 0 0)],none⟩])
 (.seq (rg [oF 16 1 1,
 oL 17 16,
 oE 18 17,
 ⟨some 19,.mm true [(.s 18),(.c (.int .i64 1))],none⟩,
 ⟨some 20,.mm false [(.s 19),(.c (.int .i64 5))],none⟩,
 oM 3 20])
 (.seq (.reg true false [oF 21 0 1,
 oL 22 21,
 ⟨some 23,.bin .rem (.s 22) (.c (.int .u8 60)),none⟩,
 ⟨some 24,.conv .i64 (.s 23),none⟩,
 ⟨some 25,.bin .add (.c (.int .i64 1)) (.s 24),none⟩,
 oM 26 3,
 ⟨some 27,.mk 3 56 [(.int .i64 0),(.slice none 0 0),(.slice none 0 0)] (.s 26) (.s 26),none⟩,
 ⟨some 28,.build [(.int .i64 0),(.slice none 0 0)] [(0,1,(.s 25)),(1,1,(.s 27))],none⟩,
 ⟨some 4,.alloc [(.int .i64 0),(.slice none 0 0)],none⟩,
 oS 2 4 28])
 (.seq (.reg true false [oM 29 3,
 oF 31 2 1,
 oL 32 31,
 ⟨some 30,.mk 1 1 [(.int .u8 0)] (.s 29) (.s 29),none⟩,
 ⟨some 33,.build [(.slice none 0 0),(.int .u16 0),(.slice none 0 0)] [(0,1,(.s 30)),(2,1,(.s 32))],none⟩,
 oU 34 109 33,
 oM 5 34])
 (.seq (rg [oK 6 1])
 (.seq (.seq (rg [oK 7 0])
 (.scope (.block 0 (.loop (.seq (.seq (rg [oM 35 7,
 oM 36 3,
 oB 37 .lss 35 36])
 (.cond (.s 37) (.skip)
 (.exit 0)))
 (.seq (.block 1 (.seq (rg [⟨some 8,.alloc [(.int .u8 0),(.int .u8 0),(.slice none 0 0)],none⟩])
 (.seq (.seq (rg [oM 40 7,
 oF 41 1 1,
 oL 42 41,
 oE 43 42,
 oB 44 .lss 40 43])
 (.scope (.cond (.s 44) (rg [oF 45 1 1,
 oL 46 45,
 oM 47 7,
 oI 48 3 46 47,
 oN 49 3 48,
 oS 3 8 49])
 (.skip))))
 (.seq (rg [oF 50 0 8,
 oL 51 50,
 ⟨some 52,.bin .rem (.s 51) (.c (.int .u8 2)),none⟩,
 ⟨some 53,.conv .i64 (.s 52),none⟩,
 ⟨some 54,.bin .add (.c (.int .i64 2)) (.s 53),none⟩,
 oM 9 54])
 (.seq (.seq (rg [oM 55 6,
 oM 56 9,
 oB 57 .mul 55 56,
 oM 58 3,
 oD 59 .sub 58 1,
 oM 60 7,
 oB 61 .sub 59 60,
 ⟨some 62,.conv .u64 (.s 61),none⟩,
 oB 63 .shl 57 62,
 oD 64 .gtr 63 100])
 (.scope (.cond (.s 64) (rg [oK 9 2])
 (.skip))))
 (.seq (rg [oM 65 6,
 oM 66 9,
 oB 67 .mul 65 66,
 oM 6 67])
 (.reg true false [oF 68 1 4,
 oL 69 68,
 oM 70 5,
 oM 71 7,
 oI 72 1 70 71,
 oL 73 72,
 oM 74 9,
 oI 75 3 69 73,
 oF 76 0 75,
 oS 1 76 74])))))))
 (rg [oM 38 7,
 oD 39 .add 38 1,
 oM 7 39])))))))
 (.seq (.seq (rg [oK 10 0])
 (.scope (.block 2 (.loop (.seq (.seq (rg [oM 77 10,
 oM 78 3,
 oB 79 .lss 77 78])
 (.cond (.s 79) (.skip)
 (.exit 2)))
 (.seq (.block 3 (.seq (rg [⟨some 11,.alloc [(.int .u8 0),(.int .u8 0),(.slice none 0 0)],none⟩])
 (.seq (.seq (rg [oM 82 10,
 oF 83 1 1,
 oL 84 83,
 oE 85 84,
 oB 86 .lss 82 85])
 (.scope (.cond (.s 86) (rg [oF 87 1 1,
 oL 88 87,
 oM 89 10,
 oI 90 3 88 89,
 oN 91 3 90,
 oS 3 11 91])
 (.skip))))
 (.seq (rg [oM 92 5,
 oM 93 10,
 oI 94 1 92 93,
 oL 95 94,
 oM 12 95])
 (.seq (.seq (rg [oK 13 0])
 (.scope (.block 4 (.loop (.seq (.seq (rg [oM 96 13,
 oM 97 3,
 oB 98 .lss 96 97])
 (.cond (.s 98) (.skip)
 (.exit 4)))
 (.seq (.block 5 (.seq (rg [oK 14 0])
 (.scope (.block 6 (.loop (.seq (.seq (rg [oM 101 14,
 oM 102 10,
 oB 103 .lss 101 102])
 (.cond (.s 103) (.skip)
 (.exit 6)))
 (.seq (.block 7 (.seq (.scope (rg [oM 106 5,
 oM 107 14,
 oI 108 1 106 107,
 oL 109 108,
 oM 110 13,
 oB 111 .eql 109 110,
 oM 112 111,
 oFg 113 1 11 112 true,
 oLg 114 113 112 true,
 oMg 115 14 112 true,
 ⟨some 116,.conv .u64 (.s 115),some (112,true)⟩,
 ⟨some 117,.bin .shr (.s 114) (.s 116),some (112,true)⟩,
 ⟨some 118,.bin .and (.s 117) (.c (.int .u8 1)),some (112,true)⟩,
 ⟨some 119,.bin .eql (.s 118) (.c (.int .u8 1)),some (112,true)⟩,
 ⟨some 120,.pick (.s 112) (.s 119) (.c (.bool false)),none⟩,
 oM 121 120,
 oFg 122 1 4 121 true,
 oLg 123 122 121 true,
 oMg 124 12 121 true,
 ⟨some 125,.idxS 3 (.s 123) (.s 124),some (121,true)⟩,
 oFg 126 1 125 121 true,
 oLg 127 126 121 true,
 ⟨some 128,.len (.s 127),some (121,true)⟩,
 oDg 129 .lss 128 3 121 true,
 ⟨some 130,.pick (.s 121) (.s 129) (.c (.bool false)),none⟩]))
 (.scope (.cond (.s 130) (.reg true false [oF 131 1 4,
 oL 132 131,
 oM 133 12,
 oF 134 1 4,
 oL 135 134,
 oM 136 12,
 oI 137 3 135 136,
 oF 138 1 137,
 oL 139 138,
 oM 140 13,
 ⟨some 141,.bsl 1 1 [(.int .i64 0)] [(0,(.s 140))],none⟩,
 ⟨none,.avo [(.s 131)] (.s 139),none⟩,
 oT 142 1 8 139 141,
 oI 143 3 132 133,
 oF 144 1 143,
 oS 1 144 142])
 (.skip)))))
 (rg [oM 104 14,
 oD 105 .add 104 1,
 oM 14 105]))))))))
 (rg [oM 99 13,
 oD 100 .add 99 1,
 oM 13 100])))))))
 (.seq (rg [oK 15 0])
 (.scope (.block 8 (.loop (.seq (.seq (rg [oM 145 15,
 oN 146 2 4,
 oM 147 12,
 oV 148 83 146 147,
 oU 149 82 148,
 oB 150 .lss 145 149])
 (.cond (.s 150) (.skip)
 (.exit 8)))
 (.seq (.block 9 (.reg true true [oF 153 1 4,
 oL 154 153,
 oM 155 12,
 oF 156 1 4,
 oL 157 156,
 oM 158 12,
 oI 159 3 157 158,
 oF 160 2 159,
 oL 161 160,
 oF 162 0 4,
 oL 163 162,
 oF 164 1 4,
 oL 165 164,
 oM 166 12,
 oI 167 3 165 166,
 oF 168 0 167,
 oL 169 168,
 oF 170 2 11,
 oL 171 170,
 oM 172 15,
 oF 173 1 4,
 oL 174 173,
 oM 175 12,
 oI 176 3 174 175,
 oF 177 0 176,
 oL 178 177,
 oD 179 .add 178 1,
 oB 180 .mul 172 179,
 ⟨some 181,.call 110 [(.s 163),(.s 169),(.s 171),(.s 180)],none⟩,
 ⟨some 182,.bsl 1 1 [(.slice none 0 0)] [(0,(.s 181))],none⟩,
 ⟨none,.avo [(.s 153)] (.s 161),none⟩,
 oT 183 1 24 161 182,
 oI 184 3 154 155,
 oF 185 2 184,
 oS 1 185 183]))
 (rg [oM 151 15,
 oD 152 .add 151 1,
 oM 15 152]))))))))))))
 (rg [oM 80 10,
 oD 81 .add 80 1,
 oM 10 81])))))))
 (.seq (rg [oN 186 2 4,
 oS 2 2 186])
 (.ret))))))))
theorem zgM:zkx mC 48=some (187,zeR,[.cell 2 (some 2)],false):=zbY (by kernel_rfl)
theorem zhj{N:Nat}{p0:S_haruspexref05_Draft}{r:S_api_Net}(h:zce N p0=some r):Lx.Fn mC 48 [(.agg [(dU8 p0.grain),(fzE false zah p0.nodes),(fzE false (eI .u8) p0.order)])] (.agg [(dI r.grain),(fzE true zac r.nodes)]):=by
 refine Fn.of zgM (zbN rfl) (qaf rfl) ?_;unfold zce at h;simp only[zeR,zm6];refine zaa ?_;obtain⟨y1,g2,h⟩:=bind_some h;obtain⟨y3,g4,h⟩:=bind_some h;obtain⟨r5,g6,h⟩:=bind_some h;try simp only[rnA,Nat.reduceEqDiff,Nat.reduceLT,Nat.reduceAdd,Nat.reduceLeDiff,Int.reduceBEq,reduceCtorEq,zas,(zaA g2).1.1,(zaA g2).1.2,qbX,(show List.replicate (Int.toNat (zc2 (zcY (p0.nodes.length:Int) 1) 5)) [(dI 0),zaJ,zaJ]=y1.map (zae.c true)from zbH g2 (zae.c true)),(zaA g4).1.2,(show List.replicate (Int.toNat (zc2 (zcY (p0.nodes.length:Int) 1) 5)) [(dU8 0)]=y3.map ((eI .u8).c true)from zbH g4 ((eI .u8).c true))]
 refine EvL.fn (zek g6) rfl rfl (.cons (.zeD (.cons (zbz (e:=(eI .u8)) (t:=true) rfl (.inl rfl) (zbs g4).symm (zbs g4).symm (fun k h=>by cases h; exact qam _) (fun h=>nomatch h)) (.cons (.lit _) (.cons (zaj _ _ (fun h=>nomatch h)) .nil)))) .nil) ?_;try simp only[rnA,Nat.reduceEqDiff,Nat.reduceLT,reduceCtorEq]
 obtain⟨o7,j7,h⟩:=bind_some h;obtain⟨T7,hT7⟩:=mkT fun a:(List S_api_Node)=>⟨187,[(1,(.ptr 0 0)),(2,(.ptr 1 0)),(3,(dI (zc2 (zcY (p0.nodes.length:Int) 1) 5))),(4,(.ptr 3 0)),(5,(fzE true (eI .i64) r5))],[.cells [(dU8 p0.grain),(fzE false zah p0.nodes),(fzE false (eI .u8) p0.order)],.cells [(dI 0),zaJ],.els 3 (a.map (zae.c true)),.cells [(dI (w64 (1+(w64 (p0.grain.tmod 60))))),(.sl 2 0 3 (Int.toNat (zc2 (zcY (p0.nodes.length:Int) 1) 5)) (some (Int.toNat (zc2 (zcY (p0.nodes.length:Int) 1) 5))) (Int.toNat (zc2 (zcY (p0.nodes.length:Int) 1) 5)))]]⟩
 refine EvL.jn T7 (fun a=>a=o7∧a.length=(Int.toNat (zc2 (zcY (p0.nodes.length:Int) 1) 5))) ?_ ?_
 ·refine zaa ?_;simp only[rnA];obtain⟨T12,hT12⟩:=mkT fun a:(Int×Int×(List S_api_Node))=>⟨187,[(1,(.ptr 0 0)),(2,(.ptr 1 0)),(3,(dI (zc2 (zcY (p0.nodes.length:Int) 1) 5))),(4,(.ptr 3 0)),(5,(fzE true (eI .i64) r5)),(6,(dI a.1)),(7,(dI a.2.1))],[.cells [(dU8 p0.grain),(fzE false zah p0.nodes),(fzE false (eI .u8) p0.order)],.cells [(dI 0),zaJ],.els 3 (a.2.2.map (zae.c true)),.cells [(dI (w64 (1+(w64 (p0.grain.tmod 60))))),(.sl 2 0 3 (Int.toNat (zc2 (zcY (p0.nodes.length:Int) 1) 5)) (some (Int.toNat (zc2 (zcY (p0.nodes.length:Int) 1) 5))) (Int.toNat (zc2 (zcY (p0.nodes.length:Int) 1) 5)))]]⟩
  refine EvL.rounds (α:=(Int×Int×(List S_api_Node))) T12 (fun n a=>zbi p0 r5 n a.1 a.2.1 a.2.2=some o7∧a.2.2.length=(Int.toNat (zc2 (zcY (p0.nodes.length:Int) 1) 5))) ((zc2 (zcY (p0.nodes.length:Int) 1) 5) - 0+2:Int).toNat (1,0,y1) (by rw[hT12]; exact wm0 [.k,.k,.k,.k] ⟨MB.cs ⟨qc8,qc8,qc8,qc8⟩,⟨MB.cs ⟨qc8,qc8,qc8⟩,⟨MB.es zae true y1,⟨MB.cs ⟨qc8,rfl,qc8⟩,qc8⟩⟩⟩⟩) ⟨j7,zbs g2⟩ (fun _ h=>nomatch (show(none:Option (List S_api_Node))=some o7 from h.1)) ?_;rintro n ⟨v6,v7,l2⟩ ⟨j7,el2⟩;simp only[zbi]at j7;rw[congrFun hT12 (v6,v7,l2)];refine zaa ?_;try simp only[rnA,Nat.reduceEqDiff,Nat.reduceLT]
  cases c7:(decide (v7<(zc2 (zcY (p0.nodes.length:Int) 1) 5)))
  ·rw[c7,cond_false]at j7;try simp only[rnA]
   replace j7:=qac j7; subst j7;exact⟨_,⟨rfl,el2⟩,by rw[hT7]; exact wm0 [.k,.k,.k,.k] ⟨MB.cs ⟨qc8,qc8,qc8,qc8⟩,⟨MB.cs ⟨qc8,qc8,qc8⟩,⟨MB.es zae true l2,⟨MB.cs ⟨qc8,rfl,qc8⟩,qc8⟩⟩⟩⟩⟩
  rw[c7,cond_true]at j7;try simp only[rnA,Nat.reduceEqDiff,Nat.reduceLT,Nat.reduceAdd,zas]
  obtain⟨o13,j13,j7⟩:=bind_some j7;obtain⟨T13,hT13⟩:=mkT fun a:(Int×Int×(List Int))=>⟨187,[(1,(.ptr 0 0)),(2,(.ptr 1 0)),(3,(dI (zc2 (zcY (p0.nodes.length:Int) 1) 5))),(4,(.ptr 3 0)),(5,(fzE true (eI .i64) r5)),(6,(dI v6)),(7,(dI v7)),(8,(.ptr 4 0))],[.cells [(dU8 p0.grain),(fzE false zah p0.nodes),(fzE false (eI .u8) p0.order)],.cells [(dI 0),zaJ],.els 3 (l2.map (zae.c true)),.cells [(dI (w64 (1+(w64 (p0.grain.tmod 60))))),(.sl 2 0 3 (Int.toNat (zc2 (zcY (p0.nodes.length:Int) 1) 5)) (some (Int.toNat (zc2 (zcY (p0.nodes.length:Int) 1) 5))) (Int.toNat (zc2 (zcY (p0.nodes.length:Int) 1) 5)))],.cells [(dU8 a.1),(dU8 a.2.1),(fzE false (eI .u8) a.2.2)]]⟩
  refine EvL.jn T13 (fun a=>a=o13) ?_ ?_
  ·refine zaa ?_;try simp only[rnA,Nat.reduceEqDiff]
   cases c8:(decide (v7<(p0.nodes.length:Int)))
   ·rw[c8,cond_false]at j13;try simp only[rnA]
    replace j13:=qac j13; subst j13;exact lfj hT13 rfl (wm0 [.k,.k,.k,.k,.k] ⟨MB.cs ⟨qc8,qc8,qc8,qc8⟩,⟨MB.cs ⟨qc8,qc8,qc8⟩,⟨MB.es zae true l2,⟨MB.cs ⟨qc8,rfl,qc8⟩,⟨MB.zx9 (.cons (.same trivial) (.cons (.same trivial) (.cons (.fr (zlm (eI .u8))) .nil))),qc8⟩⟩⟩⟩⟩)
   rw[c8,cond_true]at j13;obtain⟨x9,g10,j13⟩:=bind_some j13;try simp only[rnA,Nat.reduceEqDiff,Nat.reduceLT,Nat.reduceAdd,Nat.reduceLeDiff,zcJ,zal (n:=3) (e:=zah) rfl g10]
   replace j13:=qac j13; subst j13;exact lfj hT13 rfl (wm0 [.k,.k,.k,.k,.k] ⟨MB.cs ⟨qc8,qc8,qc8,qc8⟩,⟨MB.cs ⟨qc8,qc8,qc8⟩,⟨MB.es zae true l2,⟨MB.cs ⟨qc8,rfl,qc8⟩,⟨MB.cs ⟨qc8,qc8,qc8,qc8⟩,qc8⟩⟩⟩⟩⟩)
  rintro⟨b4_0,b4_1,b4_2⟩ rfl;dsimp only at j7;rw[congrFun hT13 (b4_0,b4_1,b4_2)];refine zaa ?_;obtain⟨q11,g12,j7⟩:=bind_some j7;try simp only[rnA,Nat.reduceEqDiff,Nat.reduceLT,Int.reduceBEq,(zfn g12).1,(zfn g12).2]
  obtain⟨o14,j14,j7⟩:=bind_some j7;obtain⟨T14,hT14⟩:=mkT fun a:Int=>⟨187,[(1,(.ptr 0 0)),(2,(.ptr 1 0)),(3,(dI (zc2 (zcY (p0.nodes.length:Int) 1) 5))),(4,(.ptr 3 0)),(5,(fzE true (eI .i64) r5)),(6,(dI v6)),(7,(dI v7)),(9,(dI a))],[.cells [(dU8 p0.grain),(fzE false zah p0.nodes),(fzE false (eI .u8) p0.order)],.cells [(dI 0),zaJ],.els 3 (l2.map (zae.c true)),.cells [(dI (w64 (1+(w64 (p0.grain.tmod 60))))),(.sl 2 0 3 (Int.toNat (zc2 (zcY (p0.nodes.length:Int) 1) 5)) (some (Int.toNat (zc2 (zcY (p0.nodes.length:Int) 1) 5))) (Int.toNat (zc2 (zcY (p0.nodes.length:Int) 1) 5)))]]⟩
  refine EvL.jn T14 (fun a=>a=o14) ?_ ?_
  ·refine zaa ?_;try simp only[rnA,Nat.reduceEqDiff]
   cases c13:(decide (100<q11))
   ·rw[c13,cond_false]at j14;try simp only[rnA]
    replace j14:=qac j14; subst j14;exact lfj hT14 rfl (wm0 [.k,.k,.k,.k] ⟨MB.cs ⟨qc8,qc8,qc8,qc8⟩,⟨MB.cs ⟨qc8,qc8,qc8⟩,⟨MB.es zae true l2,⟨MB.cs ⟨qc8,rfl,qc8⟩,qc8⟩⟩⟩⟩)
   rw[c13,cond_true]at j14;try simp only[rnA,Nat.reduceLT]
   replace j14:=qac j14; subst j14;exact lfj hT14 rfl (wm0 [.k,.k,.k,.k] ⟨MB.cs ⟨qc8,qc8,qc8,qc8⟩,⟨MB.cs ⟨qc8,qc8,qc8⟩,⟨MB.es zae true l2,⟨MB.cs ⟨qc8,rfl,qc8⟩,qc8⟩⟩⟩⟩)
  rintro v9 rfl;rw[congrFun hT14 v9];refine zaa ?_;obtain⟨x14,g15,j7⟩:=bind_some j7;obtain⟨x16,g17,j7⟩:=bind_some j7;obtain⟨y18,g19,j7⟩:=bind_some j7;try simp only[rnA,Nat.reduceEqDiff,Nat.reduceLT,Nat.reduceAdd,Nat.reduceLeDiff,zd3,zal (n:=1) (e:=(eI .i64)) rfl g15,el2,zbk g17,(show x14<(((Int.toNat (zc2 (zcY (p0.nodes.length:Int) 1) 5)):Nat):Int)from el2 ▸ zbj g17),zaS g17 (zae.c true),(show(l2.map (zae.c true)).set x14.toNat [(dI v9),(nE true (eI .i64) x16.parents),(nE true (eL (eI .i64)) x16.rows)]=y18.map (zae.c true)from zby g19 (zae.c true))]
  exact⟨((w64 (v6 * v9)),(w64 (v7+1)),y18),⟨j7,(zbe g19).trans el2⟩,by rw[hT12]; exact wm0 [.k,.k,.k,.k] ⟨MB.cs ⟨qc8,qc8,qc8,qc8⟩,⟨MB.cs ⟨qc8,qc8,qc8⟩,⟨MB.es zae true y18,⟨MB.cs ⟨qc8,rfl,qc8⟩,qc8⟩⟩⟩⟩⟩
 rintro l2 ⟨rfl,el2⟩;rw[congrFun hT7 l2];refine zaa ?_;try simp only[rnA,Nat.reduceLT]
 obtain⟨o18,j18,h⟩:=bind_some h;obtain⟨T18,hT18⟩:=mkT fun a:(List S_api_Node)=>⟨187,[(2,(.ptr 1 0)),(4,(.ptr 3 0))],[.gone,.cells [(dI 0),zaJ],.els 3 (a.map (zae.c true)),.cells [(dI (w64 (1+(w64 (p0.grain.tmod 60))))),(.sl 2 0 3 (Int.toNat (zc2 (zcY (p0.nodes.length:Int) 1) 5)) (some (Int.toNat (zc2 (zcY (p0.nodes.length:Int) 1) 5))) (Int.toNat (zc2 (zcY (p0.nodes.length:Int) 1) 5)))]]⟩
 refine EvL.jn T18 (fun a=>a=o18∧a.length=(Int.toNat (zc2 (zcY (p0.nodes.length:Int) 1) 5))) ?_ ?_
 ·refine zaa ?_;simp only[rnA];obtain⟨T21,hT21⟩:=mkT fun a:(Int×(List S_api_Node))=>⟨187,[(1,(.ptr 0 0)),(2,(.ptr 1 0)),(3,(dI (zc2 (zcY (p0.nodes.length:Int) 1) 5))),(4,(.ptr 3 0)),(5,(fzE true (eI .i64) r5)),(10,(dI a.1))],[.cells [(dU8 p0.grain),(fzE false zah p0.nodes),(fzE false (eI .u8) p0.order)],.cells [(dI 0),zaJ],.els 3 (a.2.map (zae.c true)),.cells [(dI (w64 (1+(w64 (p0.grain.tmod 60))))),(.sl 2 0 3 (Int.toNat (zc2 (zcY (p0.nodes.length:Int) 1) 5)) (some (Int.toNat (zc2 (zcY (p0.nodes.length:Int) 1) 5))) (Int.toNat (zc2 (zcY (p0.nodes.length:Int) 1) 5)))]]⟩
  refine EvL.rounds (α:=(Int×(List S_api_Node))) T21 (fun n a=>zbB N p0 r5 n a.1 a.2=some o18∧a.2.length=(Int.toNat (zc2 (zcY (p0.nodes.length:Int) 1) 5))) ((zc2 (zcY (p0.nodes.length:Int) 1) 5) - 0+2:Int).toNat (0,l2) (by rw[hT21]; exact wm0 [.k,.k,.k,.k] ⟨MB.cs ⟨qc8,qc8,qc8,qc8⟩,⟨MB.cs ⟨qc8,qc8,qc8⟩,⟨MB.es zae true l2,⟨MB.cs ⟨qc8,rfl,qc8⟩,qc8⟩⟩⟩⟩) ⟨j18,el2⟩ (fun _ h=>nomatch (show(none:Option (List S_api_Node))=some o18 from h.1)) ?_;rintro n ⟨v10,l2'⟩ ⟨j18,el2'⟩;simp only[zbB]at j18;rw[congrFun hT21 (v10,l2')];refine zaa ?_;try simp only[rnA,Nat.reduceEqDiff,Nat.reduceLT]
  cases c20:(decide (v10<(zc2 (zcY (p0.nodes.length:Int) 1) 5)))
  ·rw[c20,cond_false]at j18;try simp only[rnA]
   replace j18:=qac j18; subst j18;exact⟨_,⟨rfl,el2'⟩,by rw[hT18]; exact wm0 [.d,.k,.k,.k] ⟨rfl,⟨MB.cs ⟨qc8,qc8,qc8⟩,⟨MB.es zae true l2',⟨MB.cs ⟨qc8,rfl,qc8⟩,qc8⟩⟩⟩⟩⟩
  rw[c20,cond_true]at j18;try simp only[rnA,Nat.reduceEqDiff,Nat.reduceLT,Nat.reduceAdd,zas]
  obtain⟨o22,j22,j18⟩:=bind_some j18;obtain⟨T22,hT22⟩:=mkT fun a:(Int×Int×(List Int))=>⟨187,[(1,(.ptr 0 0)),(2,(.ptr 1 0)),(3,(dI (zc2 (zcY (p0.nodes.length:Int) 1) 5))),(4,(.ptr 3 0)),(5,(fzE true (eI .i64) r5)),(10,(dI v10)),(11,(.ptr 4 0))],[.cells [(dU8 p0.grain),(fzE false zah p0.nodes),(fzE false (eI .u8) p0.order)],.cells [(dI 0),zaJ],.els 3 (l2'.map (zae.c true)),.cells [(dI (w64 (1+(w64 (p0.grain.tmod 60))))),(.sl 2 0 3 (Int.toNat (zc2 (zcY (p0.nodes.length:Int) 1) 5)) (some (Int.toNat (zc2 (zcY (p0.nodes.length:Int) 1) 5))) (Int.toNat (zc2 (zcY (p0.nodes.length:Int) 1) 5)))],.cells [(dU8 a.1),(dU8 a.2.1),(fzE false (eI .u8) a.2.2)]]⟩
  refine EvL.jn T22 (fun a=>a=o22) ?_ ?_
  ·refine zaa ?_;try simp only[rnA,Nat.reduceEqDiff]
   cases c21:(decide (v10<(p0.nodes.length:Int)))
   ·rw[c21,cond_false]at j22;try simp only[rnA]
    replace j22:=qac j22; subst j22;exact lfj hT22 rfl (wm0 [.k,.k,.k,.k,.k] ⟨MB.cs ⟨qc8,qc8,qc8,qc8⟩,⟨MB.cs ⟨qc8,qc8,qc8⟩,⟨MB.es zae true l2',⟨MB.cs ⟨qc8,rfl,qc8⟩,⟨MB.zx9 (.cons (.same trivial) (.cons (.same trivial) (.cons (.fr (zlm (eI .u8))) .nil))),qc8⟩⟩⟩⟩⟩)
   rw[c21,cond_true]at j22;obtain⟨x22,g23,j22⟩:=bind_some j22;try simp only[rnA,Nat.reduceEqDiff,Nat.reduceLT,Nat.reduceAdd,Nat.reduceLeDiff,zcJ,zal (n:=3) (e:=zah) rfl g23]
   replace j22:=qac j22; subst j22;exact lfj hT22 rfl (wm0 [.k,.k,.k,.k,.k] ⟨MB.cs ⟨qc8,qc8,qc8,qc8⟩,⟨MB.cs ⟨qc8,qc8,qc8⟩,⟨MB.es zae true l2',⟨MB.cs ⟨qc8,rfl,qc8⟩,⟨MB.cs ⟨qc8,qc8,qc8,qc8⟩,qc8⟩⟩⟩⟩⟩)
  rintro⟨b4_0,b4_1,b4_2⟩ rfl;dsimp only at j18;rw[congrFun hT22 (b4_0,b4_1,b4_2)];refine zaa ?_;obtain⟨x24,g25,j18⟩:=bind_some j18;try simp only[rnA,Nat.reduceEqDiff,Nat.reduceLT,zal (n:=1) (e:=(eI .i64)) rfl g25]
  obtain⟨y26,g27,j18⟩:=bind_some j18;refine EvL.zkg (S':=⟨187,[(1,(.ptr 0 0)),(2,(.ptr 1 0)),(3,(dI (zc2 (zcY (p0.nodes.length:Int) 1) 5))),(4,(.ptr 3 0)),(5,(fzE true (eI .i64) r5)),(10,(dI v10)),(11,(.ptr 4 0)),(12,(dI x24)),(13,(dI 0))],[.cells [(dU8 p0.grain),(fzE false zah p0.nodes),(fzE false (eI .u8) p0.order)],.cells [(dI 0),zaJ],.els 3 (l2'.map (zae.c true)),.cells [(dI (w64 (1+(w64 (p0.grain.tmod 60))))),(.sl 2 0 3 (Int.toNat (zc2 (zcY (p0.nodes.length:Int) 1) 5)) (some (Int.toNat (zc2 (zcY (p0.nodes.length:Int) 1) 5))) (Int.toNat (zc2 (zcY (p0.nodes.length:Int) 1) 5)))],.cells [(dU8 b4_0),(dU8 b4_1),(fzE false (eI .u8) b4_2)]]⟩) (wm0 [.k,.k,.k,.k,.k] ⟨MB.cs ⟨qc8,qc8,qc8,qc8⟩,⟨MB.cs ⟨qc8,qc8,qc8⟩,⟨MB.es zae true l2',⟨MB.cs ⟨qc8,rfl,qc8⟩,⟨MB.cs ⟨qc8,qc8,qc8,qc8⟩,qc8⟩⟩⟩⟩⟩) ?_;refine zym g27 (fun kp=>⟨qc8,qc8,qc8,qc8⟩) (fun kp=>⟨qc8,qc8,qc8⟩) (fun kp=>trivial) (fun kp=>trivial) el2' (zaa ?_);try simp only[rnA,Nat.reduceLT]
  obtain⟨y28,g29,j18⟩:=bind_some j18;refine EvL.zkg (S':=⟨187,[(1,(.ptr 0 0)),(2,(.ptr 1 0)),(3,(dI (zc2 (zcY (p0.nodes.length:Int) 1) 5))),(4,(.ptr 3 0)),(5,(fzE true (eI .i64) r5)),(10,(dI v10)),(11,(.ptr 4 0)),(12,(dI x24)),(15,(dI 0))],[.cells [(dU8 p0.grain),(fzE false zah p0.nodes),(fzE false (eI .u8) p0.order)],.cells [(dI 0),zaJ],.els 3 (y26.map (zae.c true)),.cells [(dI (w64 (1+(w64 (p0.grain.tmod 60))))),(.sl 2 0 3 (Int.toNat (zc2 (zcY (p0.nodes.length:Int) 1) 5)) (some (Int.toNat (zc2 (zcY (p0.nodes.length:Int) 1) 5))) (Int.toNat (zc2 (zcY (p0.nodes.length:Int) 1) 5)))],.cells [(dU8 b4_0),(dU8 b4_1),(fzE false (eI .u8) b4_2)]]⟩) (wm0 [.k,.k,.k,.k,.k] ⟨MB.cs ⟨qc8,qc8,qc8,qc8⟩,⟨MB.cs ⟨qc8,qc8,qc8⟩,⟨MB.es zae true y26,⟨MB.cs ⟨qc8,rfl,qc8⟩,⟨MB.cs ⟨qc8,qc8,qc8,qc8⟩,qc8⟩⟩⟩⟩⟩) ?_;refine zyo g29 (fun kp=>⟨qc8,qc8,qc8,qc8⟩) (fun kp=>⟨qc8,qc8,qc8⟩) (fun kp=>trivial) (fun kp=>trivial) ((ziI g27).trans el2') (zaa ?_);try simp only[rnA,Nat.reduceEqDiff,Nat.reduceLT]
  exact⟨((w64 (v10+1)),y28),⟨j18,((zpe g29).trans ((ziI g27).trans el2'))⟩,by rw[hT21]; exact wm0 [.k,.k,.k,.k] ⟨MB.cs ⟨qc8,qc8,qc8,qc8⟩,⟨MB.cs ⟨qc8,qc8,qc8⟩,⟨MB.es zae true y28,⟨MB.cs ⟨qc8,rfl,qc8⟩,qc8⟩⟩⟩⟩⟩
 rintro l2' ⟨rfl,el2'⟩;rw[congrFun hT18 l2'];refine zaa ?_;try simp only[rnA,Nat.reduceEqDiff,Nat.reduceLT,Nat.reduceAdd,Nat.reduceLeDiff]
 replace h:=qac h; subst h;exact zdd.ret rfl (.zeD (.cons (.lit _) (.cons (zop (e:=zac) rfl (.inl rfl) (by rw[qaE]; exact(el2').symm) (by rw[qaE]; exact(el2').symm) (fun k h=>by cases h; exact qam _) (zio (fun _=>rfl) l2')) .nil)))
def zaZ(p1:(List Int))(p0:S_factor_table):Nat→Int→(List Int)→Option (List Int)
 | 0,_,_=>none
 | n+1,v14,l1=>(
bif (decide (v14<(p1.length:Int)))then(
(za5 p1 v14).bind fun x4=>
(zaC p0 x4).bind fun r6=>
((bif (decide (0≤r6))then(
(za5 p0.steps r6).bind fun x9=>
(za5 l1 v14).bind fun x11=>
(zeP l1 v14 x9).bind fun y13=>
some y13)
else(
some l1):Option (List Int))).bind fun l1'=>
zaZ p1 p0 n (w64 (v14+1)) l1')
else(
some l1))
def zbn(p0:S_factor_table)(p1:(List Int)):Option (List Int):=
(zd5 8 (p1.length:Int) 0).bind fun y1=>
((zaZ p1 p0 ((p1.length:Int) - 0+2:Int).toNat 0 y1:Option (List Int))).bind fun l1=>
some l1
theorem zfg{p0:S_factor_table}{p1:(List Int)}{r:(List Int)}(h:zbn p0 p1=some r):Lx.Fn mC 94 [(.agg [(fzE false (eI .i64) p0.factor.vars),(fzE false (eI .i64) p0.factor.cards),(fzE false (eI .i64) p0.factor.w),(fzE false (eI .i64) p0.steps)]),(fzE false (eI .i64) p1)] (fzE true (eI .i64) r):=by
 refine fnO (by conv=>lhs; cbv) ?_;unfold zbn at h;refine zaa ?_;obtain⟨y1,g2,h⟩:=bind_some h;try simp only[rnA,Nat.reduceEqDiff,Nat.reduceLT,Nat.reduceAdd,reduceCtorEq,zas,(zaA g2).1.1,(zaA g2).1.2,qbX,(show List.replicate (Int.toNat (p1.length:Int)) [(dI 0)]=y1.map ((eI .i64).c true)from zbH g2 ((eI .i64).c true))]
 obtain⟨o4,j4,h⟩:=bind_some h;obtain⟨T4,hT4⟩:=mkT fun a:(List Int)=>⟨34,[(5,(.sl 1 0 1 (Int.toNat (p1.length:Int)) (some (Int.toNat (p1.length:Int))) (Int.toNat (p1.length:Int))))],[.gone,.els 1 (a.map ((eI .i64).c true))]⟩
 refine EvL.jn T4 (fun a=>a=o4∧a.length=(Int.toNat (p1.length:Int))) ?_ ?_
 ·refine zaa ?_;simp only[rnA];obtain⟨T7,hT7⟩:=mkT fun a:(Int×(List Int))=>⟨34,[(2,(.ptr 0 0)),(5,(.sl 1 0 1 (Int.toNat (p1.length:Int)) (some (Int.toNat (p1.length:Int))) (Int.toNat (p1.length:Int)))),(12,(fzE false (eI .i64) p1)),(13,(dI (p1.length:Int))),(14,(dI a.1))],[.cells [(fzE false (eI .i64) p0.factor.vars),(fzE false (eI .i64) p0.factor.cards),(fzE false (eI .i64) p0.factor.w),(fzE false (eI .i64) p0.steps)],.els 1 (a.2.map ((eI .i64).c true))]⟩
  refine EvL.rounds (α:=(Int×(List Int))) T7 (fun n a=>zaZ p1 p0 n a.1 a.2=some o4∧a.2.length=(Int.toNat (p1.length:Int))) ((p1.length:Int) - 0+2:Int).toNat (0,y1) (by rw[hT7]; exact wm0 [.k,.k] ⟨MB.cs ⟨qc8,qc8,qc8,qc8,qc8⟩,⟨MB.es (eI .i64) true y1,qc8⟩⟩) ⟨j4,zbs g2⟩ (fun _ h=>nomatch (show(none:Option (List Int))=some o4 from h.1)) ?_;rintro n ⟨v14,l1⟩ ⟨j4,el1⟩;simp only[zaZ]at j4;rw[congrFun hT7 (v14,l1)];refine zaa ?_;try simp only[rnA,Nat.reduceEqDiff,Nat.reduceLT]
  cases c3:(decide (v14<(p1.length:Int)))
  ·rw[c3,cond_false]at j4;try simp only[rnA]
   replace j4:=qac j4; subst j4;exact⟨_,⟨rfl,el1⟩,by rw[hT4]; exact wm0 [.d,.k] ⟨rfl,⟨MB.es (eI .i64) true l1,qc8⟩⟩⟩
  rw[c3,cond_true]at j4;obtain⟨x4,g5,j4⟩:=bind_some j4;obtain⟨r6,g7,j4⟩:=bind_some j4;try simp only[rnA,Nat.reduceEqDiff,Nat.reduceLT,Nat.reduceAdd,Nat.reduceLeDiff,zal (n:=1) (e:=(eI .i64)) rfl g5]
  refine EvL.fn (zbg g7) rfl rfl (.cons (.zeD (.cons (zaj _ _ (fun h=>nomatch h)) (.cons (zaj _ _ (fun h=>nomatch h)) (.cons (zaj _ _ (fun h=>nomatch h)) (.cons (zaj _ _ (fun h=>nomatch h)) .nil))))) (.cons (.lit _) .nil)) ?_;try simp only[rnA,Nat.reduceEqDiff,Nat.reduceLT]
  obtain⟨o8,j8,j4⟩:=bind_some j4;obtain⟨T8,hT8⟩:=mkT fun a:(List Int)=>⟨34,[(2,(.ptr 0 0)),(5,(.sl 1 0 1 (Int.toNat (p1.length:Int)) (some (Int.toNat (p1.length:Int))) (Int.toNat (p1.length:Int)))),(12,(fzE false (eI .i64) p1)),(13,(dI (p1.length:Int))),(14,(dI v14))],[.cells [(fzE false (eI .i64) p0.factor.vars),(fzE false (eI .i64) p0.factor.cards),(fzE false (eI .i64) p0.factor.w),(fzE false (eI .i64) p0.steps)],.els 1 (a.map ((eI .i64).c true))]⟩
  refine EvL.jn T8 (fun a=>a=o8∧a.length=(Int.toNat (p1.length:Int))) ?_ ?_
  ·refine zaa ?_;try simp only[rnA,Nat.reduceEqDiff]
   cases c8:(decide (0≤r6))
   ·rw[c8,cond_false]at j8;try simp only[rnA]
    replace j8:=qac j8; subst j8;exact⟨_,⟨rfl,el1⟩,by rw[hT8]; exact wm0 [.k,.k] ⟨MB.cs ⟨qc8,qc8,qc8,qc8,qc8⟩,⟨MB.es (eI .i64) true l1,qc8⟩⟩⟩
   rw[c8,cond_true]at j8;obtain⟨x9,g10,j8⟩:=bind_some j8;obtain⟨x11,g12,j8⟩:=bind_some j8;obtain⟨y13,g14,j8⟩:=bind_some j8;try simp only[rnA,Nat.reduceEqDiff,Nat.reduceLT,Nat.reduceLeDiff,zal (n:=1) (e:=(eI .i64)) rfl g10,el1,zbk g12,(show v14<(((Int.toNat (p1.length:Int)):Nat):Int)from el1 ▸ zbj g12),zaS g12 ((eI .i64).c true),(show(l1.map ((eI .i64).c true)).set v14.toNat [(dI x9)]=y13.map ((eI .i64).c true)from zby g14 ((eI .i64).c true))]
   replace j8:=qac j8; subst j8;exact⟨_,⟨rfl,(zbe g14).trans el1⟩,by rw[hT8]; exact wm0 [.k,.k] ⟨MB.cs ⟨qc8,qc8,qc8,qc8,qc8⟩,⟨MB.es (eI .i64) true y13,qc8⟩⟩⟩
  rintro l1' ⟨rfl,el1'⟩;rw[congrFun hT8 l1'];refine zaa ?_;try simp only[rnA,Nat.reduceEqDiff,Nat.reduceLT]
  exact⟨((w64 (v14+1)),l1'),⟨j4,el1'⟩,by rw[hT7]; exact wm0 [.k,.k] ⟨MB.cs ⟨qc8,qc8,qc8,qc8,qc8⟩,⟨MB.es (eI .i64) true l1',qc8⟩⟩⟩
 rintro l1 ⟨rfl,el1⟩;rw[congrFun hT4 l1];refine zaa ?_;try simp only[rnA,Nat.reduceEqDiff,Nat.reduceLT]
 replace h:=qac h; subst h;exact zdd.ret rfl (zbz (e:=(eI .i64)) (t:=true) rfl (.inl rfl) (el1).symm (el1).symm (fun k h=>by cases h; exact qam _) (fun _=>rfl))
def zbL(p0:S_api_Factor)(p1:Int):Option (S_api_Factor×Int):=
(zci p0 p1).bind fun r1=>
some (r1.1,r1.2)
theorem zhc{p0:S_api_Factor}{p1:Int}{r:(S_api_Factor×Int)}(h:zbL p0 p1=some r):Lx.FnA mC 32 [(.agg [(fzE false (eI .i64) p0.vars),(fzE false (eI .i64) p0.cards),(fzE false (eI .i64) p0.w)]),(dI p1)] (.tup [(.agg [(fzE false (eI .i64) r.1.vars),(fzE false (eI .i64) r.1.cards),(fzE false (eI .i64) r.1.w)]),(dI r.2)]):=by
 refine zzs (by conv=>lhs; cbv) ?_;unfold zbL at h;refine zaa ?_;obtain⟨r1,g2,h⟩:=bind_some h;try simp only[rnA,Nat.reduceEqDiff,reduceIte,Nat.reduceLT,Nat.reduceAdd,Nat.reduceLeDiff,Nat.reduceMul,Nat.reduceSub,Int.reduceLE,Int.reduceLT,Int.reduceBEq,Nat.reduceBEq,reduceCtorEq,zcQ,zeU]
 refine EvL.fnS (zgv g2) rfl rfl (.cons (Mzs.agg (.cons (zbG _ _ (fun h=>by cases h<;>contradiction)) (.cons (zbG _ _ (fun h=>by cases h<;>contradiction)) (.cons (zbG _ _ (fun h=>by cases h<;>contradiction)) .nil)))) (.cons (.lit _) (.cons (Mzs.agg (.cons zqV .nil)) .nil))) ⟨⟨(zaF _ _),(zaF _ _),(zaF _ _),qc8⟩,qc8,⟨⟨qc8,qc8⟩,qc8⟩,qc8⟩ ⟨⟨(zaF _ _),(zaF _ _),(zaF _ _),qc8⟩,qc8,qc8⟩ ?_;try simp only[rnA,Nat.reduceEqDiff,reduceIte,Nat.reduceLT,Nat.reduceAdd,Nat.reduceLeDiff,Nat.reduceMul,Nat.reduceSub,Int.reduceLE,Int.reduceLT,Int.reduceBEq,Nat.reduceBEq,reduceCtorEq,zcQ]
 replace h:=qac h; subst h;exact zhh.ret rfl (Snp.zfI (.cons (.zeD (.cons (zaj _ _ (fun h=>nomatch h)) (.cons (zaj _ _ (fun h=>nomatch h)) (.cons (zaj _ _ (fun h=>nomatch h)) .nil)))) (.cons (.lit _) .nil)))
def zbU(r1:(S_factor_table×Int))(r4:Int)(p2:Int)(q21:Int):List (Int×Int×(List Int))→(List Int)→Option (List Int)
 | [],l5=>some l5
 | y31 :: ys,l5=>(
(za5 r1.1.steps r4).bind fun x32=>
(za5 r1.1.factor.w (w64 (y31.2.1+(w64 (p2 * x32))))).bind fun x34=>
(za5 l5 y31.1).bind fun x36=>
(zeP l5 y31.1 x34).bind fun y38=>
zbU r1 r4 p2 q21 ys y38)
def zcK(p0:S_api_Factor)(p1:Int)(p2:Int):Option (S_api_Factor×Int):=
(zbW p0).bind fun r1=>
bif (r1.2 == 0)then(
(zaC r1.1 p1).bind fun r4=>
bif (decide (r4<0))then(
some ((S_api_Factor.mk [] [] []),4))
else(
((bif (decide (p2<0))then(
some true)
else(
(za5 r1.1.factor.cards r4).bind fun x8=>
some (decide (x8≤p2))):Option Bool)).bind fun v42=>
bif v42 then(
some ((S_api_Factor.mk [] [] []),2))
else(
(zdq 8 r1.1.factor.vars).bind fun y11=>
(zqN y11 r4 (w64 (r4+1))).bind fun y13=>
(zdq 8 r1.1.factor.cards).bind fun y15=>
(zqN y15 r4 (w64 (r4+1))).bind fun y17=>
(za5 r1.1.factor.cards r4).bind fun x19=>
(zo5 .i64 (r1.1.factor.w.length:Int) x19).bind fun q21=>
(zd5 8 q21 0).bind fun y23=>
(zbn r1.1 y13).bind fun r25=>
(zcx y17 r25).bind fun r27=>
(zwZ r27.1 r27.2).bind fun u29=>
((zbU r1 r4 p2 q21 u29 y23:Option (List Int))).bind fun l5=>
some ((S_api_Factor.mk y13 y17 l5),0))))
else(
some ((S_api_Factor.mk [] [] []),r1.2))
def zhb:C:=
 .seq (rg [oW 3 0,
 oW 5 2,
 ⟨some 6,.alloc [(.slice none 0 0),(.slice none 0 0),(.slice none 0 0)],none⟩,
 oK 7 0])
 (.seq (rg [oN 17 3 3,
 oU 18 89 17,
 oM 16 18,
 oX 19 16 0,
 oX 20 16 1,
 ⟨some 8,.alloc [(.slice none 0 0),(.slice none 0 0),(.slice none 0 0),(.slice none 0 0)],none⟩,
 oS 4 8 19,
 oM 9 20])
 (.seq (.seq (rg [oM 21 9,
 oD 22 .neq 21 0])
 (.cond (.s 22) (.seq (rg [⟨some 23,.build [(.slice none 0 0),(.slice none 0 0),(.slice none 0 0)] [],none⟩,
 oM 24 9,
 oS 3 6 23,
 oM 7 24])
 (.ret))
 (.skip)))
 (.seq (rg [oN 25 4 8,
 oM 26 1,
 oV 27 96 25 26,
 ⟨some 10,.alloc [(.int .i64 0)],none⟩,
 oS 1 10 27])
 (.seq (.seq (rg [oL 28 10,
 oD 29 .lss 28 0])
 (.cond (.s 29) (.seq (rg [⟨some 30,.build [(.slice none 0 0),(.slice none 0 0),(.slice none 0 0)] [],none⟩,
 oS 3 6 30,
 oK 7 4])
 (.ret))
 (.skip)))
 (.seq (.seq (.scope (.reg true false [oL 31 5,
 oD 32 .lss 31 0,
 oM 33 32,
 oLg 34 5 33 false,
 oFg 35 0 8 33 false,
 oFg 36 1 35 33 false,
 oLg 37 36 33 false,
 oLg 38 10 33 false,
 ⟨some 39,.idxS 1 (.s 37) (.s 38),some (33,false)⟩,
 oLg 40 39 33 false,
 ⟨some 41,.bin .geq (.s 34) (.s 40),some (33,false)⟩,
 oP 42 33 41]))
 (.cond (.s 42) (.seq (rg [⟨some 43,.build [(.slice none 0 0),(.slice none 0 0),(.slice none 0 0)] [],none⟩,
 oS 3 6 43,
 oK 7 2])
 (.ret))
 (.skip)))
 (.seq (.reg true false [oF 44 0 8,
 oF 45 0 44,
 oL 46 45,
 oL 48 10,
 oL 49 10,
 oD 50 .add 49 1,
 oU 47 49 46,
 ⟨some 51,.call 103 [(.s 47),(.s 48),(.s 50)],none⟩,
 oM 11 51])
 (.seq (.reg true false [oF 52 0 8,
 oF 53 1 52,
 oL 54 53,
 oL 56 10,
 oL 57 10,
 oD 58 .add 57 1,
 oU 55 49 54,
 ⟨some 59,.call 103 [(.s 55),(.s 56),(.s 58)],none⟩,
 oM 12 59])
 (.seq (.reg true false [oF 60 0 8,
 oF 61 2 60,
 oL 62 61,
 oE 63 62,
 oF 64 0 8,
 oF 65 1 64,
 oL 66 65,
 oL 67 10,
 oI 68 1 66 67,
 oL 69 68,
 oB 70 .quo 63 69,
 ⟨some 71,.mk 1 8 [(.int .i64 0)] (.s 70) (.s 70),none⟩,
 ⟨some 13,.alloc [(.slice none 0 0)],none⟩,
 oS 1 13 71])
 (.seq (.seq (rg [oM 72 12,
 oN 73 4 8,
 oM 74 11,
 oV 75 94 73 74,
 oV 76 93 72 75])
 (.block 0 (.zd4 (.s 76) [77,78] (.seq (rg [oM 14 77])
 (rg [oM 15 78]))
 (.block 1 (.reg true false [oL 79 13,
 oM 80 14,
 oF 81 0 8,
 oF 82 2 81,
 oL 83 82,
 oM 84 15,
 oL 85 5,
 oF 86 3 8,
 oL 87 86,
 oL 88 10,
 oI 89 1 87 88,
 oL 90 89,
 oB 91 .mul 85 90,
 oB 92 .add 84 91,
 oI 93 1 83 92,
 oL 94 93,
 oI 95 1 79 80,
 oS 1 95 94])))))
 (.seq (rg [oM 96 11,
 oM 97 12,
 oL 98 13,
 ⟨some 99,.build [(.slice none 0 0),(.slice none 0 0),(.slice none 0 0)] [(0,1,(.s 96)),(1,1,(.s 97)),(2,1,(.s 98))],none⟩,
 oS 3 6 99,
 oK 7 0])
 (.ret)))))))))))
theorem zir:zkx mC 34=some (100,zhb,[.cell 6 (some 3),.tmp 7],false):=zbY (by kernel_rfl)
theorem zjE{p0:S_api_Factor}{p1:Int}{p2:Int}{r:(S_api_Factor×Int)}(h:zcK p0 p1 p2=some r):Lx.Fn mC 34 [(.agg [(fzE false (eI .i64) p0.vars),(fzE false (eI .i64) p0.cards),(fzE false (eI .i64) p0.w)]),(dI p1),(dI p2)] (.tup [(.agg [(fzE true (eI .i64) r.1.vars),(fzE true (eI .i64) r.1.cards),(fzE true (eI .i64) r.1.w)]),(dI r.2)]):=by
 refine Fn.of zir (zbN rfl) (qaf rfl) ?_;unfold zcK at h;simp only[zhb,zm6];refine zaa ?_;obtain⟨r1,g2,h⟩:=bind_some h;try simp only[rnA,Nat.reduceEqDiff,Nat.reduceLT,Nat.reduceAdd,Nat.reduceLeDiff,reduceCtorEq]
 refine EvL.fnS (zfA g2) rfl rfl (.cons (Mzs.agg (.cons (zbG _ _ (fun h=>by cases h<;>contradiction)) (.cons (zbG _ _ (fun h=>by cases h<;>contradiction)) (.cons (zbG _ _ (fun h=>by cases h<;>contradiction)) .nil)))) .nil) ⟨⟨(zaF _ _),(zaF _ _),(zaF _ _),qc8⟩,qc8⟩ ⟨⟨(zaF _ _),(zaF _ _),(zaF _ _),(zaF _ _),qc8⟩,qc8,qc8⟩ ?_;try simp only[rnA,Nat.reduceEqDiff,Nat.reduceLT,Nat.reduceAdd,Nat.reduceLeDiff,reduceCtorEq]
 cases c3:(r1.2 == 0)
 ·rw[c3,cond_false]at h;try simp only[rnA,Nat.reduceEqDiff,Nat.reduceLT,Nat.reduceAdd,Nat.reduceLeDiff,reduceCtorEq]
  replace h:=qac h; subst h;exact zdd.ret rfl (Snp.zfI (.cons (.zeD (.cons (zam (eI .i64)) (.cons (zam (eI .i64)) (.cons (zam (eI .i64)) .nil)))) (.cons (.lit _) .nil)))
 rw[c3,cond_true]at h;obtain⟨r4,g5,h⟩:=bind_some h;try simp only[rnA,Nat.reduceEqDiff,Nat.reduceLT,Nat.reduceAdd,Nat.reduceLeDiff,reduceCtorEq]
 refine EvL.fn (zbg g5) rfl rfl (.cons (.zeD (.cons (zaj _ _ (fun h=>nomatch h)) (.cons (zaj _ _ (fun h=>nomatch h)) (.cons (zaj _ _ (fun h=>nomatch h)) (.cons (zaj _ _ (fun h=>nomatch h)) .nil))))) (.cons (.lit _) .nil)) ?_;try simp only[rnA,Nat.reduceEqDiff,Nat.reduceLT,Nat.reduceAdd,Nat.reduceLeDiff,reduceCtorEq]
 cases c6:(decide (r4<0))
 ·rw[c6,cond_false]at h;try simp only[rnA]
  obtain⟨o1,j1,h⟩:=bind_some h;obtain⟨T1,hT1⟩:=mkT fun a:Bool=>⟨100,[(5,(.ptr 1 0)),(6,(.ptr 2 0)),(8,(.ptr 3 0)),(10,(.ptr 4 0)),(42,(dB a))],[.gone,.cells [(dI p2)],.cells [zaJ,zaJ,zaJ],.cells [(fzE false (eI .i64) r1.1.factor.vars),(fzE false (eI .i64) r1.1.factor.cards),(fzE false (eI .i64) r1.1.factor.w),(fzE false (eI .i64) r1.1.steps)],.cells [(dI r4)]]⟩
  refine EvL.jn T1 (fun a=>a=o1) ?_ ?_
  ·refine zaa ?_;try simp only[rnA,Nat.reduceEqDiff,Nat.reduceLT,reduceCtorEq]
   cases c7:(decide (p2<0))
   ·rw[c7,cond_false]at j1;obtain⟨x8,g9,j1⟩:=bind_some j1;try simp only[rnA,Nat.reduceEqDiff,Nat.reduceLT,reduceCtorEq,zal (n:=1) (e:=(eI .i64)) rfl g9]
    replace j1:=qac j1; subst j1;exact lfj hT1 rfl (wm0 [.d,.k,.k,.k,.k] ⟨rfl,⟨MB.cs ⟨qc8,qc8⟩,⟨MB.cs ⟨qc8,qc8,qc8,qc8⟩,⟨MB.cs ⟨qc8,qc8,qc8,qc8,qc8⟩,⟨MB.cs ⟨qc8,qc8⟩,qc8⟩⟩⟩⟩⟩)
   rw[c7,cond_true]at j1;try simp only[rnA,Nat.reduceEqDiff,Nat.reduceLT,reduceCtorEq]
   replace j1:=qac j1; subst j1;exact lfj hT1 rfl (wm0 [.d,.k,.k,.k,.k] ⟨rfl,⟨MB.cs ⟨qc8,qc8⟩,⟨MB.cs ⟨qc8,qc8,qc8,qc8⟩,⟨MB.cs ⟨qc8,qc8,qc8,qc8,qc8⟩,⟨MB.cs ⟨qc8,qc8⟩,qc8⟩⟩⟩⟩⟩)
  rintro v42 rfl;rw[congrFun hT1 v42];refine zaa ?_;try simp only[rnA,Nat.reduceEqDiff]
  cases c10:v42
  ·rw[c10,cond_false]at h;obtain⟨y11,g12,h⟩:=bind_some h;try simp only[rnA,Nat.reduceEqDiff,Nat.reduceLT]
   refine EvL.clone (t:=false) (zs:=r1.1.factor.vars) g12 rfl rfl ?_;obtain⟨y13,g14,h⟩:=bind_some h;try simp only[rnA,Nat.reduceLT,Nat.reduceAdd]
   refine EvL.delete (zs:=y11) (t:=true) g14 rfl rfl rfl rfl rfl rfl ?_;refine EvL.zkg (S':=⟨100,[(5,(.ptr 1 0)),(6,(.ptr 2 0)),(8,(.ptr 3 0)),(10,(.ptr 4 0)),(51,(fzE true (eI .i64) y13))],[.gone,.cells [(dI p2)],.cells [zaJ,zaJ,zaJ],.cells [(fzE false (eI .i64) r1.1.factor.vars),(fzE false (eI .i64) r1.1.factor.cards),(fzE false (eI .i64) r1.1.factor.w),(fzE false (eI .i64) r1.1.steps)],.cells [(dI r4)]]⟩) (zbA.m0 [.d,.k,.k,.k,.k,.f] rfl (msq (msq (msq (msq (mf rfl (zmQ (xs:=y11) (ys:=y13) (t:=true) (znf g14) rfl rfl rfl (fun _=>rfl)) trivial))))) ⟨rfl,⟨MB.cs ⟨qc8,qc8⟩,⟨MB.cs ⟨qc8,qc8,qc8,qc8⟩,⟨MB.cs ⟨qc8,qc8,qc8,qc8,qc8⟩,⟨MB.cs ⟨qc8,qc8⟩,qc8⟩⟩⟩⟩⟩) (zaa ?_);obtain⟨y15,g16,h⟩:=bind_some h;try simp only[rnA,Nat.reduceEqDiff,Nat.reduceLT]
   refine EvL.clone (t:=false) (zs:=r1.1.factor.cards) g16 rfl rfl ?_;obtain⟨y17,g18,h⟩:=bind_some h;try simp only[rnA,Nat.reduceLT,Nat.reduceAdd]
   refine EvL.delete (zs:=y15) (t:=true) g18 rfl rfl rfl rfl rfl rfl ?_;refine EvL.zkg (S':=⟨100,[(5,(.ptr 1 0)),(6,(.ptr 2 0)),(8,(.ptr 3 0)),(10,(.ptr 4 0)),(11,(fzE true (eI .i64) y13)),(59,(fzE true (eI .i64) y17))],[.gone,.cells [(dI p2)],.cells [zaJ,zaJ,zaJ],.cells [(fzE false (eI .i64) r1.1.factor.vars),(fzE false (eI .i64) r1.1.factor.cards),(fzE false (eI .i64) r1.1.factor.w),(fzE false (eI .i64) r1.1.steps)],.cells [(dI r4)]]⟩) (zbA.m0 [.d,.k,.k,.k,.k,.f] rfl (msq (msq (msq (msq (msq (mf rfl (zmQ (xs:=y15) (ys:=y17) (t:=true) (znf g18) rfl rfl rfl (fun _=>rfl)) trivial)))))) ⟨rfl,⟨MB.cs ⟨qc8,qc8⟩,⟨MB.cs ⟨qc8,qc8,qc8,qc8⟩,⟨MB.cs ⟨qc8,qc8,qc8,qc8,qc8⟩,⟨MB.cs ⟨qc8,qc8⟩,qc8⟩⟩⟩⟩⟩) (zaa ?_);obtain⟨x19,g20,h⟩:=bind_some h;obtain⟨q21,g22,h⟩:=bind_some h;obtain⟨y23,g24,h⟩:=bind_some h;obtain⟨r25,g26,h⟩:=bind_some h;try simp only[rnA,Nat.reduceEqDiff,Nat.reduceLT,Nat.reduceAdd,Nat.reduceLeDiff,zas,zal (n:=1) (e:=(eI .i64)) rfl g20,zjx g22,znl g22,(zaA g24).1.1,(zaA g24).1.2,qbX,(show List.replicate (Int.toNat q21) [(dI 0)]=y23.map ((eI .i64).c true)from zbH g24 ((eI .i64).c true))]
   refine EvL.fn (zfg g26) rfl rfl (.cons (.zeD (.cons (zaj _ _ (fun h=>nomatch h)) (.cons (zaj _ _ (fun h=>nomatch h)) (.cons (zaj _ _ (fun h=>nomatch h)) (.cons (zaj _ _ (fun h=>nomatch h)) .nil))))) (.cons (zaj _ _ (fun h=>nomatch h)) .nil)) ?_;obtain⟨r27,g28,h⟩:=bind_some h;try simp only[rnA,Nat.reduceLT]
   refine EvL.fnS (zd7 g28) rfl rfl (.cons (zbG _ _ (fun h=>by cases h<;>contradiction)) (.cons (zbG _ _ (fun h=>by cases h<;>contradiction)) .nil)) ⟨(zaF _ _),(zaF _ _),qc8⟩ ⟨qc8,⟨⟨rfl,zaF _ _,qc8⟩,⟨rfl,zaF _ _,qc8⟩,qc8⟩⟩ ?_;try simp only[rnA,Nat.reduceLT]
   obtain⟨u29,g30,h⟩:=bind_some h;obtain⟨o2,j2,h⟩:=bind_some h;obtain⟨T2,hT2⟩:∃ T:(List Int)→List LB,T=(fun a=>[.gone,.cells [(dI p2)],.cells [zaJ,zaJ,zaJ],.cells [(fzE false (eI .i64) r1.1.factor.vars),(fzE false (eI .i64) r1.1.factor.cards),(fzE false (eI .i64) r1.1.factor.w),(fzE false (eI .i64) r1.1.steps)],.cells [(dI r4)],.els 1 (a.map ((eI .i64).c true)),.cells [(.sl 5 0 1 (Int.toNat q21) (some (Int.toNat q21)) (Int.toNat q21))]]):=⟨_,rfl⟩;refine EvL.zkg (S':=⟨100,[(5,(.ptr 1 0)),(6,(.ptr 2 0)),(8,(.ptr 3 0)),(10,(.ptr 4 0)),(11,(fzE true (eI .i64) y13)),(12,(fzE true (eI .i64) y17)),(13,(.ptr 6 0)),(76,(.clo 135 [] [(.fptr false ((eL (eI .i64)).c false r27.1)),(.fptr false ((eL (eI .i64)).c false r27.2))]))],T2 y23⟩) (by rw[hT2]; exact wm0 [.k,.k,.k,.k,.k,.k,.k] ⟨MB.same trivial,⟨MB.cs ⟨qc8,qc8⟩,⟨MB.cs ⟨qc8,qc8,qc8,qc8⟩,⟨MB.cs ⟨qc8,qc8,qc8,qc8,qc8⟩,⟨MB.cs ⟨qc8,qc8⟩,⟨MB.es (eI .i64) true y23,⟨MB.cs ⟨rfl,qc8⟩,qc8⟩⟩⟩⟩⟩⟩⟩) ?_;refine EvL.zkk (n0:=7) (zdP g30) rfl (bm:=.block 1 (.reg true false [⟨some 79,.load none (.s 13),none⟩,⟨some 80,.mov (.s 14),none⟩,⟨some 81,.fld 0 (.s 8),none⟩,⟨some 82,.fld 2 (.s 81),none⟩,⟨some 83,.load none (.s 82),none⟩,⟨some 84,.mov (.s 15),none⟩,⟨some 85,.load none (.s 5),none⟩,⟨some 86,.fld 3 (.s 8),none⟩,⟨some 87,.load none (.s 86),none⟩,⟨some 88,.load none (.s 10),none⟩,⟨some 89,.idxS 1 (.s 87) (.s 88),none⟩,⟨some 90,.load none (.s 89),none⟩,⟨some 91,.bin .mul (.s 85) (.s 90),none⟩,⟨some 92,.bin .add (.s 84) (.s 91),none⟩,⟨some 93,.idxS 1 (.s 83) (.s 92),none⟩,⟨some 94,.load none (.s 93),none⟩,⟨some 95,.idxS 1 (.s 79) (.s 80),none⟩,⟨none,.store 1 (.s 95) (.s 94),none⟩])) rfl T2 (fun i a=>zbU r1 r4 p2 q21 (u29.drop i) a=some o2∧a.length=(Int.toNat q21)) (fun x L1=>match x with | .normal=>∃ a,o2=a∧a.length=(Int.toNat q21)∧L1=T2 a | .ret=>L1.length=7∧zfh (7+1) L1∧(zdd [.cell 6 (some 3),.tmp 7] ((.tup [(.agg [(fzE true (eI .i64) r.1.vars),(fzE true (eI .i64) r.1.cards),(fzE true (eI .i64) r.1.w)]),(dI r.2)]))) .ret ⟨100,[(5,(.ptr 1 0)),(6,(.ptr 2 0)),(8,(.ptr 3 0)),(10,(.ptr 4 0)),(11,(fzE true (eI .i64) y13)),(12,(fzE true (eI .i64) y17)),(13,(.ptr 6 0)),(76,(.clo 135 [] [(.fptr false ((eL (eI .i64)).c false r27.1)),(.fptr false ((eL (eI .i64)).c false r27.2))]))],L1 ++ [.lost]⟩| _=>False) y23 ?_ (qaC _) ?_ ?_ ?_ (fun d L1 hx=>hx.elim) ?_ ?_ ?_ ?_ ?_ ?_
   ·intro a; rw[hT2]; rfl
   ·exact⟨(qaf rfl),(qaf rfl),(qaf rfl),(qaf rfl),qc8,qc8,(qaf rfl),⟨qc8,⟨qc8,qc8,qc8⟩⟩,qc8⟩
   ·intro a; rw[hT2]; exact⟨qc8,⟨qc8,qc8⟩,⟨qc8,qc8,qc8,qc8⟩,⟨qc8,qc8,qc8,qc8,qc8⟩,⟨qc8,qc8⟩,(zdX (eI .i64) _ _ _),⟨(qaf rfl),qc8⟩,qc8⟩
   ·intro x L1 hx;cases x with
    | normal=>obtain⟨a,_,_,rfl⟩:=hx; exact⟨by rw[hT2]; rfl,by rw[hT2]; exact⟨qc8,⟨qc8,qc8⟩,⟨qc8,qc8,qc8,qc8⟩,⟨qc8,qc8,qc8,qc8,qc8⟩,⟨qc8,qc8⟩,(zdX (eI .i64) _ _ _),⟨(qaf rfl),qc8⟩,qc8⟩⟩
    | ret=>exact⟨hx.1,hx.2.1⟩
    | exit id=>exact hx.elim
    | panic d=>exact hx.elim
   ·exact⟨j2,zbs g24⟩
   ·rintro i l5 y31 args G lpF hy ⟨hi2,el5⟩ ⟨rfl,rfl⟩ hkin;rw[zhv hy]at hi2;simp only[zbU]at hi2;refine⟨_,_,rfl,rfl,?_⟩;rw[congrFun hT2 l5];refine zaa ?_;obtain⟨x32,g33,hi2⟩:=bind_some hi2;obtain⟨x34,g35,hi2⟩:=bind_some hi2;obtain⟨x36,g37,hi2⟩:=bind_some hi2;obtain⟨y38,g39,hi2⟩:=bind_some hi2;try simp only[rnA,Nat.reduceEqDiff,Nat.reduceLT,Nat.reduceAdd,Nat.reduceLeDiff,zal (n:=1) (e:=(eI .i64)) rfl g33,zal (n:=1) (e:=(eI .i64)) rfl g35,el5,zbk g37,(show y31.1<(((Int.toNat q21):Nat):Int)from el5 ▸ zbj g37),zaS g37 ((eI .i64).c true),(show(l5.map ((eI .i64).c true)).set y31.1.toNat [(dI x34)]=y38.map ((eI .i64).c true)from zby g39 ((eI .i64).c true))]
    exact⟨T2 y38,by rw[hT2]; rfl,by rw[hT2]; exact zbA.mK [.k,.k,.k,.k,.k,.k,.k,.k,.k] rfl rfl qc8 ⟨MB.same trivial,⟨MB.cs ⟨qc8,qc8⟩,⟨MB.cs ⟨qc8,qc8,qc8,qc8⟩,⟨MB.cs ⟨qc8,qc8,qc8,qc8,qc8⟩,⟨MB.cs ⟨qc8,qc8⟩,⟨MB.es (eI .i64) true y38,⟨MB.cs ⟨rfl,qc8⟩,⟨.same (hkin _ (by decide)),⟨MB.same (ze1 _ _ _ _),qc8⟩⟩⟩⟩⟩⟩⟩⟩⟩,y38,⟨hi2,(zbe g39).trans el5⟩,rfl⟩
   ·rintro l5 ⟨hi2,el5⟩;rw[qbs]at hi2;simp only[zbU]at hi2;exact⟨l5,(qac hi2).symm,el5,rfl⟩
   ·rintro _ ⟨l5,oeq,el5,rfl⟩;have oeq2:=oeq.symm;subst oeq2;rw[congrFun hT2 l5];refine zaa ?_;try simp only[rnA,Nat.reduceEqDiff,Nat.reduceLT,Nat.reduceAdd,Nat.reduceLeDiff]
    replace h:=qac h; subst h;exact zdd.ret rfl (Snp.zfI (.cons (.zeD (.cons (zaj _ _ (fun _=>rfl)) (.cons (zaj _ _ (fun _=>rfl)) (.cons (zbz (e:=(eI .i64)) (t:=true) rfl (.inl rfl) (el5).symm (el5).symm (fun k h=>by cases h; exact qam _) (fun _=>rfl)) .nil)))) (.cons (.lit _) .nil)))
   ·intro id L1 hx; exact hx.elim
   intro L1 hx; exact hx.2.2
  rw[c10,cond_true]at h;try simp only[rnA,Nat.reduceEqDiff,Nat.reduceLT,Nat.reduceAdd,Nat.reduceLeDiff]
  replace h:=qac h; subst h;exact zdd.ret rfl (Snp.zfI (.cons (.zeD (.cons (zam (eI .i64)) (.cons (zam (eI .i64)) (.cons (zam (eI .i64)) .nil)))) (.cons (.lit _) .nil)))
 rw[c6,cond_true]at h;try simp only[rnA,Nat.reduceEqDiff,Nat.reduceLT,Nat.reduceAdd,Nat.reduceLeDiff,reduceCtorEq]
 replace h:=qac h; subst h;exact zdd.ret rfl (Snp.zfI (.cons (.zeD (.cons (zam (eI .i64)) (.cons (zam (eI .i64)) (.cons (zam (eI .i64)) .nil)))) (.cons (.lit _) .nil)))
def zaT(p0:(List Int))(p1:(List Int)):Nat→Int→Option (Out Unit Bool)
 | 0,_=>none
 | n+1,v13=>(
bif (decide (v13<(p0.length:Int)))then(
(za5 p0 v13).bind fun x3=>
(za5 p1 v13).bind fun x5=>
bif (x3 == x5)then(
zaT p0 p1 n (w64 (v13+1)))
else(
some (.ret false)))
else(
some (.go ())))
def zaM(p0:(List Int))(p1:(List Int)):Option Bool:=
bif ((p0.length:Int)==(p1.length:Int))then(
((zaT p0 p1 ((p0.length:Int) - 0+2:Int).toNat 0:Option (Out Unit Bool))).bind fun o=>match o with
| .go _=>(
some true)
| .ret r=>some r)
else(
some false)
theorem zcR{p0:(List Int)}{p1:(List Int)}{r:Bool}(h:zaM p0 p1=some r):Lx.Fn mC 51 [(fzE false (eI .i64) p0),(fzE false (eI .i64) p1)] (dB r):=by
 refine fnO (by conv=>lhs; cbv) ?_;unfold zaM at h;refine zaa ?_;try simp only[rnA,Nat.reduceEqDiff,Nat.reduceLT,Nat.reduceAdd,reduceCtorEq,zas]
 cases c1:((p0.length:Int)==(p1.length:Int))
 ·rw[c1,cond_false]at h;try simp only[rnA,Nat.reduceLT]
  replace h:=qac h; subst h;exact zdd.ret rfl (.lit _)
 rw[c1,cond_true]at h;try simp only[rnA,Nat.reduceEqDiff,Nat.reduceLT,reduceCtorEq,zas]
 obtain⟨o1,j1,h⟩:=bind_some h;obtain⟨T1,hT1⟩:=mkT fun a:Unit=>⟨26,[],[]⟩
 refine EvL.jn T1 (fun a=>o1=.go a) ?_ ?_
 ·refine zaa ?_;simp only[rnA];obtain⟨T2,hT2⟩:=mkT fun a:Int=>⟨26,[(0,(fzE false (eI .i64) p0)),(1,(fzE false (eI .i64) p1)),(12,(dI (p0.length:Int))),(13,(dI a))],[]⟩
  refine EvL.rounds (α:=Int) T2 (fun n a=>zaT p0 p1 n a=some o1) ((p0.length:Int) - 0+2:Int).toNat 0 (by rw[hT2]; exact wm0 [] (by exact trivial)) j1 (fun _ h=>nomatch (show(none:Option (Out Unit Bool))=some o1 from h)) ?_;rintro n v13 j1;simp only[zaT]at j1;rw[congrFun hT2 v13];refine zaa ?_;try simp only[rnA,Nat.reduceEqDiff,Nat.reduceLT,reduceCtorEq]
  cases c2:(decide (v13<(p0.length:Int)))
  ·rw[c2,cond_false]at j1;try simp only[rnA]
   replace j1:=qac j1; subst j1;exact lfj hT1 rfl (wm0 [] (by exact trivial))
  rw[c2,cond_true]at j1;obtain⟨x3,g4,j1⟩:=bind_some j1;obtain⟨x5,g6,j1⟩:=bind_some j1;try simp only[rnA,Nat.reduceEqDiff,Nat.reduceLT,reduceCtorEq,zal (n:=1) (e:=(eI .i64)) rfl g4,zal (n:=1) (e:=(eI .i64)) rfl g6]
  cases c7:(x3 == x5)
  ·rw[c7,cond_false]at j1;try simp only[rnA,Nat.reduceLT]
   replace j1:=qac j1; subst j1;dsimp only at h;replace h:=qac h; subst h;exact zdd.ret rfl (.lit _)
  rw[c7,cond_true]at j1;try simp only[rnA,Nat.reduceEqDiff,Nat.reduceLT,reduceCtorEq]
  exact⟨(w64 (v13+1)),j1,by rw[hT2]; exact wm0 [] (by exact trivial)⟩
 rintro⟨⟩ rfl;dsimp only at h;rw[congrFun hT1 ()];refine zaa ?_;try simp only[rnA,Nat.reduceLT]
 replace h:=qac h; subst h;exact zdd.ret rfl (.lit _)
def zb1(r21:(S_api_Factor×Int))(r4:S_api_Net):Nat→Int→Option (Out Unit Bool)
 | 0,_=>none
 | n+1,v85=>(
bif (decide (v85<(r21.1.w.length:Int)))then(
(za5 r21.1.w v85).bind fun x29=>
bif (x29 == r4.grain)then(
zb1 r21 r4 n (w64 (v85+1)))
else(
some (.ret false)))
else(
some (.go ())))
def zbZ(x13:S_api_Node)(r4:S_api_Net):Nat→Int→(List Int)→(List Int)→(List Int)→Option (Out ((List Int)×(List Int)×(List Int)) Bool)
 | 0,_,_,_,_=>none
 | n+1,v102,b3_0,b3_1,b3_2=>(
bif (decide (v102<(x13.parents.length:Int)))then(
(za5 x13.parents v102).bind fun x33=>
(za5 r4.nodes x33).bind fun x35=>
(zcK (S_api_Factor.mk b3_0 b3_1 b3_2) x33 (w64 (x35.card - 1))).bind fun r37=>
bif (r37.2 == 0)then(
zbZ x13 r4 n (w64 (v102+1)) r37.1.vars r37.1.cards r37.1.w)
else(
some (.ret false)))
else(
some (.go (b3_0,b3_1,b3_2))))
def zb4(r6:((List S_api_Factor)×Int))(r4:S_api_Net):Nat→Int→Option (Out Unit Bool)
 | 0,_=>none
 | n+1,v37=>(
bif (decide (v37<(r6.1.length:Int)))then(
(za5 r6.1 v37).bind fun x11=>
(za5 r4.nodes v37).bind fun x13=>
(zdq 8 x13.parents).bind fun y15=>
(zdL 8 y15 [v37]).bind fun y17=>
(zlI 8 y17).bind fun y19=>
(zbL x11 v37).bind fun r21=>
((bif (r21.2 == 0)then(
(zaM x11.vars y19).bind fun r24=>
bif r24 then(
some (!((r21.1.w.length:Int)==(x13.rows.length:Int))))
else(
some true))
else(
some true):Option Bool)).bind fun v81=>
bif v81 then(
some (.ret false))
else(
((zb1 r21 r4 ((r21.1.w.length:Int) - 0+2:Int).toNat 0:Option (Out Unit Bool))).bind fun o=>match o with
| .go _=>(
((zbZ x13 r4 ((x13.parents.length:Int) - 0+2:Int).toNat 0 x11.vars x11.cards x11.w:Option (Out ((List Int)×(List Int)×(List Int)) Bool))).bind fun o=>match o with
| .go (b3_0,b3_1,b3_2)=>(
(za5 x13.rows (w64 ((x13.rows.length:Int) - 1))).bind fun x40=>
(zaM b3_2 x40).bind fun r42=>
bif r42 then(
zb4 r6 r4 n (w64 (v37+1)))
else(
some (.ret false)))
| .ret r=>some (.ret r))
| .ret r=>some (.ret r)))
else(
some (.go ())))
def zdu(N:Nat)(p0:S_haruspexref05_Draft):Option Bool:=
(zmZ).bind fun r1=>
bif r1 then(
(zce N p0).bind fun r4=>
(zcT r4).bind fun r6=>
((bif (r6.2 == 0)then(
some (!((r6.1.length:Int)==(r4.nodes.length:Int))))
else(
some true):Option Bool)).bind fun v34=>
bif v34 then(
some false)
else(
((zb4 r6 r4 ((r6.1.length:Int) - 0+2:Int).toNat 0:Option (Out Unit Bool))).bind fun o=>match o with
| .go _=>(
some true)
| .ret r=>some r))
else(
some false)
def zgE:C:=
 .seq (rg [oW 1 0,
 oJ 2 false])
 (.seq (.seq (rg [⟨some 16,.call 14 [],none⟩,
 ⟨some 17,.un .not (.s 16),none⟩])
 (.cond (.s 17) (.seq (rg [oJ 2 false])
 (.ret))
 (.skip)))
 (.seq (rg [oN 18 3 1,
 oU 19 48 18,
 ⟨some 3,.alloc [(.int .i64 0),(.slice none 0 0)],none⟩,
 oS 2 3 19])
 (.seq (rg [oN 21 2 3,
 oU 22 16 21,
 oM 20 22,
 oX 23 20 0,
 oX 24 20 1,
 oM 4 23,
 oM 5 24])
 (.seq (.seq (.scope (rg [oM 25 5,
 oD 26 .neq 25 0,
 oM 27 26,
 oMg 28 4 27 false,
 ⟨some 29,.len (.s 28),some (27,false)⟩,
 oFg 30 1 3 27 false,
 oLg 31 30 27 false,
 ⟨some 32,.len (.s 31),some (27,false)⟩,
 ⟨some 33,.bin .neq (.s 29) (.s 32),some (27,false)⟩,
 oP 34 27 33]))
 (.cond (.s 34) (.seq (rg [oJ 2 false])
 (.ret))
 (.skip)))
 (.seq (.seq (rg [oM 35 4,
 oE 36 35,
 oK 37 0])
 (.scope (.block 0 (.loop (.seq (rg [oB 38 .lss 37 36])
 (.seq (.cond (.s 38) (.skip)
 (.exit 0))
 (.seq (.block 1 (.seq (rg [oM 39 37,
 oI 40 3 35 37,
 oN 41 3 40,
 ⟨some 7,.alloc [(.slice none 0 0),(.slice none 0 0),(.slice none 0 0)],none⟩,
 oM 6 39,
 oS 3 7 41])
 (.seq (rg [oF 42 1 3,
 oL 43 42,
 oM 44 6,
 oI 45 3 43 44,
 oF 46 1 45,
 oL 47 46,
 oU 48 49 47,
 oM 49 6,
 ⟨some 50,.bsl 1 1 [(.int .i64 0)] [(0,(.s 49))],none⟩,
 oT 51 1 8 48 50,
 oM 8 51])
 (.seq (rg [oM 52 8,
 oU 53 50 52])
 (.seq (rg [oN 55 3 7,
 oM 56 6,
 oV 57 32 55 56,
 oM 54 57,
 oX 58 54 0,
 oX 59 54 1,
 ⟨some 9,.alloc [(.slice none 0 0),(.slice none 0 0),(.slice none 0 0)],none⟩,
 oS 3 9 58,
 oM 10 59])
 (.seq (.seq (.scope (.reg true true [oM 60 10,
 oD 61 .neq 60 0,
 oM 62 61,
 oFg 63 0 7 62 false,
 oLg 64 63 62 false,
 oMg 65 8 62 false,
 ⟨some 66,.call 51 [(.s 64),(.s 65)],some (62,false)⟩,
 ⟨some 67,.un .not (.s 66),some (62,false)⟩,
 oP 68 62 67,
 oM 69 68,
 oFg 70 2 9 69 false,
 oLg 71 70 69 false,
 ⟨some 72,.len (.s 71),some (69,false)⟩,
 oFg 73 1 3 69 false,
 oLg 74 73 69 false,
 oMg 75 6 69 false,
 ⟨some 76,.idxS 3 (.s 74) (.s 75),some (69,false)⟩,
 oFg 77 2 76 69 false,
 oLg 78 77 69 false,
 ⟨some 79,.len (.s 78),some (69,false)⟩,
 ⟨some 80,.bin .neq (.s 72) (.s 79),some (69,false)⟩,
 oP 81 69 80]))
 (.cond (.s 81) (.seq (rg [oJ 2 false])
 (.ret))
 (.skip)))
 (.seq (.seq (rg [oF 82 2 9,
 oL 83 82,
 oE 84 83,
 oK 85 0])
 (.scope (.block 2 (.loop (.seq (rg [oB 86 .lss 85 84])
 (.seq (.cond (.s 86) (.skip)
 (.exit 2))
 (.seq (.block 3 (.seq (rg [oI 87 1 83 85,
 oL 88 87,
 oM 12 88])
 (.seq (rg [oM 89 12,
 oF 90 0 3,
 oL 91 90,
 oB 92 .neq 89 91])
 (.cond (.s 92) (.seq (rg [oJ 2 false])
 (.ret))
 (.skip)))))
 (rg [oD 93 .add 85 1,
 oM 85 93]))))))))
 (.seq (rg [oN 94 3 7,
 ⟨some 13,.alloc [(.slice none 0 0),(.slice none 0 0),(.slice none 0 0)],none⟩,
 oS 3 13 94])
 (.seq (.seq (rg [oF 95 1 3,
 oL 96 95,
 oM 97 6,
 oI 98 3 96 97,
 oF 99 1 98,
 oL 100 99,
 oE 101 100,
 oK 102 0])
 (.scope (.block 4 (.loop (.seq (rg [oB 103 .lss 102 101])
 (.seq (.cond (.s 103) (.skip)
 (.exit 4))
 (.seq (.block 5 (.seq (rg [oI 104 1 100 102,
 oL 105 104,
 oM 15 105])
 (.seq (.reg true false [oN 107 3 13,
 oM 108 15,
 oF 109 1 3,
 oL 110 109,
 oM 111 15,
 oI 112 3 110 111,
 oF 113 0 112,
 oL 114 113,
 oD 115 .sub 114 1,
 ⟨some 116,.call 34 [(.s 107),(.s 108),(.s 115)],none⟩,
 oM 106 116,
 oX 117 106 0,
 oX 118 106 1,
 oS 3 13 117,
 oM 10 118])
 (.seq (rg [oM 119 10,
 oD 120 .neq 119 0])
 (.cond (.s 120) (.seq (rg [oJ 2 false])
 (.ret))
 (.skip))))))
 (rg [oD 121 .add 102 1,
 oM 102 121]))))))))
 (.seq (.reg true false [oF 122 2 13,
 oL 123 122,
 oF 124 1 3,
 oL 125 124,
 oM 126 6,
 oI 127 3 125 126,
 oF 128 2 127,
 oL 129 128,
 oF 130 1 3,
 oL 131 130,
 oM 132 6,
 oI 133 3 131 132,
 oF 134 2 133,
 oL 135 134,
 oE 136 135,
 oD 137 .sub 136 1,
 oI 138 1 129 137,
 oL 139 138,
 oV 140 51 123 139,
 ⟨some 141,.un .not (.s 140),none⟩])
 (.cond (.s 141) (.seq (rg [oJ 2 false])
 (.ret))
 (.skip))))))))))))
 (rg [oD 142 .add 37 1,
 oM 37 142]))))))))
 (.seq (rg [oJ 2 true])
 (.ret)))))))
theorem zhF:zkx mC 12=some (143,zgE,[.tmp 2],false):=zbY (by kernel_rfl)
theorem ziw{N:Nat}{p0:S_haruspexref05_Draft}{r:Bool}(h:zdu N p0=some r):Lx.Fn mC 12 [(.agg [(dU8 p0.grain),(fzE false zah p0.nodes),(fzE false (eI .u8) p0.order)])] (dB r):=by
 refine Fn.of zhF (zbN rfl) (qaf rfl) ?_;unfold zdu at h;simp only[zgE,zm6];refine zaa ?_;obtain⟨r1,g2,h⟩:=bind_some h;try simp only[rnA,Nat.reduceLT]
 refine EvL.fn (ztV g2) rfl rfl .nil ?_;try simp only[rnA,Nat.reduceEqDiff,Nat.reduceLT,reduceCtorEq]
 cases c3:r1
 ·rw[c3,cond_false]at h;try simp only[rnA,Nat.reduceLT]
  replace h:=qac h; subst h;exact zdd.ret rfl (.lit _)
 rw[c3,cond_true]at h;obtain⟨r4,g5,h⟩:=bind_some h;try simp only[rnA,Nat.reduceEqDiff,Nat.reduceLT,Nat.reduceAdd,Nat.reduceLeDiff,reduceCtorEq]
 refine EvL.fn (zhj g5) rfl rfl (.cons (.zeD (.cons (.lit _) (.cons (zaj _ _ (fun h=>nomatch h)) (.cons (zaj _ _ (fun h=>nomatch h)) .nil)))) .nil) ?_;obtain⟨r6,g7,h⟩:=bind_some h;try simp only[rnA,Nat.reduceEqDiff,Nat.reduceLT,Nat.reduceAdd,Nat.reduceLeDiff,reduceCtorEq]
 refine EvL.fn (ziy g7) rfl rfl (.cons (.zeD (.cons (.lit _) (.cons (zaj _ _ (fun h=>nomatch h)) .nil))) .nil) ?_;try simp only[rnA,Nat.reduceEqDiff,Nat.reduceLT,reduceCtorEq]
 obtain⟨o1,j1,h⟩:=bind_some h;obtain⟨T1,hT1⟩:=mkT fun a:Bool=>⟨143,[(3,(.ptr 1 0)),(4,(fzE true zao r6.1)),(34,(dB a))],[.gone,.cells [(dI r4.grain),(fzE true zac r4.nodes)]]⟩
 refine EvL.jn T1 (fun a=>a=o1) ?_ ?_
 ·refine zaa ?_;try simp only[rnA,Nat.reduceEqDiff,Nat.reduceLT,reduceCtorEq]
  cases c8:(r6.2 == 0)
  ·rw[c8,cond_false]at j1;try simp only[rnA,Nat.reduceEqDiff,Nat.reduceLT,reduceCtorEq]
   replace j1:=qac j1; subst j1;exact lfj hT1 rfl (wm0 [.d,.k] ⟨rfl,⟨MB.cs ⟨qc8,qc8,qc8⟩,qc8⟩⟩)
  rw[c8,cond_true]at j1;try simp only[rnA,Nat.reduceEqDiff,Nat.reduceLT,reduceCtorEq,zas]
  replace j1:=qac j1; subst j1;exact lfj hT1 rfl (wm0 [.d,.k] ⟨rfl,⟨MB.cs ⟨qc8,qc8,qc8⟩,qc8⟩⟩)
 rintro v34 rfl;rw[congrFun hT1 v34];refine zaa ?_;try simp only[rnA,Nat.reduceEqDiff]
 cases c9:v34
 ·rw[c9,cond_false]at h;try simp only[rnA,Nat.reduceEqDiff,Nat.reduceLT,zas]
  obtain⟨o17,j17,h⟩:=bind_some h;obtain⟨T17,hT17⟩:=mkT fun a:Unit=>⟨143,[],[]⟩
  refine EvL.jn T17 (fun a=>o17=.go a) ?_ ?_
  ·refine zaa ?_;simp only[rnA];obtain⟨T28,hT28⟩:=mkT fun a:Int=>⟨143,[(3,(.ptr 1 0)),(35,(fzE true zao r6.1)),(36,(dI (r6.1.length:Int))),(37,(dI a))],[.gone,.cells [(dI r4.grain),(fzE true zac r4.nodes)]]⟩
   refine EvL.rounds (α:=Int) T28 (fun n a=>zb4 r6 r4 n a=some o17) ((r6.1.length:Int) - 0+2:Int).toNat 0 (by rw[hT28]; exact wm0 [.d,.k] ⟨rfl,⟨MB.cs ⟨qc8,qc8,qc8⟩,qc8⟩⟩) j17 (fun _ h=>nomatch (show(none:Option (Out Unit Bool))=some o17 from h)) ?_;rintro n v37 j17;simp only[zb4]at j17;rw[congrFun hT28 v37];refine zaa ?_;try simp only[rnA,Nat.reduceEqDiff,Nat.reduceLT]
   cases c10:(decide (v37<(r6.1.length:Int)))
   ·rw[c10,cond_false]at j17;try simp only[rnA]
    replace j17:=qac j17; subst j17;exact lfj hT17 rfl (wm0 [] (by exact trivial))
   rw[c10,cond_true]at j17;obtain⟨x11,g12,j17⟩:=bind_some j17;obtain⟨x13,g14,j17⟩:=bind_some j17;obtain⟨y15,g16,j17⟩:=bind_some j17;try simp only[rnA,Nat.reduceEqDiff,Nat.reduceLT,Nat.reduceAdd,Nat.reduceLeDiff,zar,zcQ,zal (n:=3) (e:=zao) rfl g12,zal (n:=3) (e:=zac) rfl g14]
   refine EvL.clone (t:=true) (zs:=x13.parents) g16 rfl rfl ?_;obtain⟨y17,g18,j17⟩:=bind_some j17;obtain⟨y19,g20,j17⟩:=bind_some j17;try simp only[rnA,Nat.reduceEqDiff,Nat.reduceLT,Nat.reduceAdd,Nat.reduceLeDiff,zdt g18,(show y15.length+1=y17.length from zcs g18),(show y15.map ((eI .i64).c true)++ [[(dI v37)]]=y17.map ((eI .i64).c true)from zcU g18 ((eI .i64).c true))]
   refine EvL.sort (zs:=y17) (t:=true) g20 rfl rfl rfl rfl rfl ?_;obtain⟨r21,g22,j17⟩:=bind_some j17;try simp only[rnA,Nat.reduceEqDiff,Nat.reduceLT,Nat.reduceAdd,Nat.reduceLeDiff]
   refine EvL.fnS (zhc g22) rfl rfl (.cons (Mzs.agg (.cons (zbG _ _ (fun h=>by cases h<;>contradiction)) (.cons (zbG _ _ (fun h=>by cases h<;>contradiction)) (.cons (zbG _ _ (fun h=>by cases h<;>contradiction)) .nil)))) (.cons (.lit _) .nil)) ⟨⟨(zaF _ _),(zaF _ _),(zaF _ _),qc8⟩,qc8,qc8⟩ ⟨⟨(zaF _ _),(zaF _ _),(zaF _ _),qc8⟩,qc8,qc8⟩ ?_;try simp only[rnA,Nat.reduceEqDiff,Nat.reduceLT,Nat.reduceAdd,Nat.reduceLeDiff]
   obtain⟨o29,j29,j17⟩:=bind_some j17;obtain⟨T29,hT29⟩:=mkT fun a:Bool=>⟨143,[(3,(.ptr 1 0)),(6,(dI v37)),(7,(.ptr 2 0)),(9,(.ptr 5 0)),(35,(fzE true zao r6.1)),(36,(dI (r6.1.length:Int))),(37,(dI v37)),(81,(dB a))],[.gone,.cells [(dI r4.grain),(fzE true zac r4.nodes)],.cells [(fzE true (eI .i64) x11.vars),(fzE true (eI .i64) x11.cards),(fzE true (eI .i64) x11.w)],.gone,.gone,.cells [(fzE false (eI .i64) r21.1.vars),(fzE false (eI .i64) r21.1.cards),(fzE false (eI .i64) r21.1.w)]]⟩
   refine EvL.jn T29 (fun a=>a=o29) ?_ ?_
   ·refine zaa ?_;try simp only[rnA,Nat.reduceEqDiff,Nat.reduceLT]
    cases c23:(r21.2 == 0)
    ·rw[c23,cond_false]at j29;try simp only[rnA,Nat.reduceEqDiff,Nat.reduceLT]
     refine EvL.skip rfl ?_;try simp only[rnA,Nat.reduceEqDiff,Nat.reduceLT]
     replace j29:=qac j29; subst j29;exact lfj hT29 rfl (wm0 [.d,.k,.k,.d,.d,.k] ⟨rfl,⟨MB.cs ⟨qc8,qc8,qc8⟩,⟨MB.cs ⟨qc8,qc8,qc8,qc8⟩,⟨rfl,⟨rfl,⟨MB.cs ⟨qc8,qc8,qc8,qc8⟩,qc8⟩⟩⟩⟩⟩⟩)
    rw[c23,cond_true]at j29;obtain⟨r24,g25,j29⟩:=bind_some j29;try simp only[rnA,Nat.reduceEqDiff,Nat.reduceLT]
    refine EvL.fn (zcR g25) rfl rfl (.cons (zaj _ _ (fun h=>nomatch h)) (.cons (zbz (e:=(eI .i64)) (t:=true) rfl (.inl rfl) (((zk8 g20).trans rfl)).symm (((zk8 g20).trans rfl)).symm (fun k h=>nomatch h) (fun h=>nomatch h)) .nil)) ?_;try simp only[rnA,Nat.reduceEqDiff,Nat.reduceLT]
    cases c26:r24
    ·rw[c26,cond_false]at j29;try simp only[rnA,Nat.reduceEqDiff,Nat.reduceLT]
     replace j29:=qac j29; subst j29;exact lfj hT29 rfl (wm0 [.d,.k,.k,.d,.d,.k] ⟨rfl,⟨MB.cs ⟨qc8,qc8,qc8⟩,⟨MB.cs ⟨qc8,qc8,qc8,qc8⟩,⟨rfl,⟨rfl,⟨MB.cs ⟨qc8,qc8,qc8,qc8⟩,qc8⟩⟩⟩⟩⟩⟩)
    rw[c26,cond_true]at j29;try simp only[rnA,Nat.reduceEqDiff,Nat.reduceLT,Nat.reduceAdd,Nat.reduceLeDiff,zar,zas,zal (n:=3) (e:=zac) rfl g14]
    replace j29:=qac j29; subst j29;exact lfj hT29 rfl (wm0 [.d,.k,.k,.d,.d,.k] ⟨rfl,⟨MB.cs ⟨qc8,qc8,qc8⟩,⟨MB.cs ⟨qc8,qc8,qc8,qc8⟩,⟨rfl,⟨rfl,⟨MB.cs ⟨qc8,qc8,qc8,qc8⟩,qc8⟩⟩⟩⟩⟩⟩)
   rintro v81 rfl;rw[congrFun hT29 v81];refine zaa ?_;try simp only[rnA,Nat.reduceEqDiff]
   cases c27:v81
   ·rw[c27,cond_false]at j17;try simp only[rnA,Nat.reduceEqDiff,Nat.reduceLT,zas]
    obtain⟨o30,j30,j17⟩:=bind_some j17;obtain⟨T30,hT30⟩:=mkT fun a:Unit=>⟨143,[(3,(.ptr 1 0)),(6,(dI v37)),(7,(.ptr 2 0)),(35,(fzE true zao r6.1)),(36,(dI (r6.1.length:Int))),(37,(dI v37))],[.gone,.cells [(dI r4.grain),(fzE true zac r4.nodes)],.cells [(fzE true (eI .i64) x11.vars),(fzE true (eI .i64) x11.cards),(fzE true (eI .i64) x11.w)]]⟩
    refine EvL.jn T30 (fun a=>o30=.go a) ?_ ?_
    ·refine zaa ?_;simp only[rnA];obtain⟨T31,hT31⟩:=mkT fun a:Int=>⟨143,[(3,(.ptr 1 0)),(6,(dI v37)),(7,(.ptr 2 0)),(35,(fzE true zao r6.1)),(36,(dI (r6.1.length:Int))),(37,(dI v37)),(83,(fzE false (eI .i64) r21.1.w)),(84,(dI (r21.1.w.length:Int))),(85,(dI a))],[.gone,.cells [(dI r4.grain),(fzE true zac r4.nodes)],.cells [(fzE true (eI .i64) x11.vars),(fzE true (eI .i64) x11.cards),(fzE true (eI .i64) x11.w)]]⟩
     refine EvL.rounds (α:=Int) T31 (fun n a=>zb1 r21 r4 n a=some o30) ((r21.1.w.length:Int) - 0+2:Int).toNat 0 (by rw[hT31]; exact wm0 [.d,.k,.k] ⟨rfl,⟨MB.cs ⟨qc8,qc8,qc8⟩,⟨MB.cs ⟨qc8,qc8,qc8,qc8⟩,qc8⟩⟩⟩) j30 (fun _ h=>nomatch (show(none:Option (Out Unit Bool))=some o30 from h)) ?_;rintro n v85 j30;simp only[zb1]at j30;rw[congrFun hT31 v85];refine zaa ?_;try simp only[rnA,Nat.reduceEqDiff,Nat.reduceLT]
     cases c28:(decide (v85<(r21.1.w.length:Int)))
     ·rw[c28,cond_false]at j30;try simp only[rnA,Nat.reduceEqDiff,Nat.reduceLT,reduceCtorEq]
      replace j30:=qac j30; subst j30;exact lfj hT30 rfl (wm0 [.d,.k,.k] ⟨rfl,⟨MB.cs ⟨qc8,qc8,qc8⟩,⟨MB.cs ⟨qc8,qc8,qc8,qc8⟩,qc8⟩⟩⟩)
     rw[c28,cond_true]at j30;obtain⟨x29,g30,j30⟩:=bind_some j30;try simp only[rnA,Nat.reduceEqDiff,Nat.reduceLT,zal (n:=1) (e:=(eI .i64)) rfl g30]
     cases c31:(x29 == r4.grain)
     ·rw[c31,cond_false]at j30;try simp only[rnA,Nat.reduceLT]
      replace j30:=qac j30; subst j30;dsimp only at j17;replace j17:=qac j17; subst j17;dsimp only at h;replace h:=qac h; subst h;exact zdd.ret rfl (.lit _)
     rw[c31,cond_true]at j30;try simp only[rnA,Nat.reduceEqDiff,Nat.reduceLT]
     exact⟨(w64 (v85+1)),j30,by rw[hT31]; exact wm0 [.d,.k,.k] ⟨rfl,⟨MB.cs ⟨qc8,qc8,qc8⟩,⟨MB.cs ⟨qc8,qc8,qc8,qc8⟩,qc8⟩⟩⟩⟩
    rintro⟨⟩ rfl;dsimp only at j17;rw[congrFun hT30 ()];refine zaa ?_;try simp only[rnA,Nat.reduceEqDiff,Nat.reduceLT,Nat.reduceAdd,Nat.reduceLeDiff,zar,zal (n:=3) (e:=zac) rfl g14,zas]
    obtain⟨o32,j32,j17⟩:=bind_some j17;obtain⟨T32,hT32⟩:=mkT fun a:((List Int)×(List Int)×(List Int))=>⟨143,[(3,(.ptr 1 0)),(6,(dI v37)),(13,(.ptr 3 0)),(35,(fzE true zao r6.1)),(36,(dI (r6.1.length:Int))),(37,(dI v37))],[.gone,.cells [(dI r4.grain),(fzE true zac r4.nodes)],.gone,.cells [(fzE true (eI .i64) a.1),(fzE true (eI .i64) a.2.1),(fzE true (eI .i64) a.2.2)]]⟩
    refine EvL.jn T32 (fun a=>o32=.go a) ?_ ?_
    ·refine zaa ?_;simp only[rnA];obtain⟨T33,hT33⟩:=mkT fun a:(Int×(List Int)×(List Int)×(List Int))=>⟨143,[(3,(.ptr 1 0)),(6,(dI v37)),(13,(.ptr 3 0)),(35,(fzE true zao r6.1)),(36,(dI (r6.1.length:Int))),(37,(dI v37)),(100,(fzE true (eI .i64) x13.parents)),(101,(dI (x13.parents.length:Int))),(102,(dI a.1))],[.gone,.cells [(dI r4.grain),(fzE true zac r4.nodes)],.gone,.cells [(fzE true (eI .i64) a.2.1),(fzE true (eI .i64) a.2.2.1),(fzE true (eI .i64) a.2.2.2)]]⟩
     refine EvL.rounds (α:=(Int×(List Int)×(List Int)×(List Int))) T33 (fun n a=>zbZ x13 r4 n a.1 a.2.1 a.2.2.1 a.2.2.2=some o32) ((x13.parents.length:Int) - 0+2:Int).toNat (0,x11.vars,x11.cards,x11.w) (by rw[hT33]; exact wm0 [.d,.k,.d,.k] ⟨rfl,⟨MB.cs ⟨qc8,qc8,qc8⟩,⟨rfl,⟨MB.cs ⟨qc8,qc8,qc8,qc8⟩,qc8⟩⟩⟩⟩) j32 (fun _ h=>nomatch (show(none:Option (Out ((List Int)×(List Int)×(List Int)) Bool))=some o32 from h)) ?_;rintro n ⟨v102,b3_0,b3_1,b3_2⟩ j32;simp only[zbZ]at j32;rw[congrFun hT33 (v102,b3_0,b3_1,b3_2)];refine zaa ?_;try simp only[rnA,Nat.reduceEqDiff,Nat.reduceLT]
     cases c32:(decide (v102<(x13.parents.length:Int)))
     ·rw[c32,cond_false]at j32;try simp only[rnA,Nat.reduceEqDiff,Nat.reduceLT,reduceCtorEq]
      replace j32:=qac j32; subst j32;exact lfj hT32 rfl (wm0 [.d,.k,.d,.k] ⟨rfl,⟨MB.cs ⟨qc8,qc8,qc8⟩,⟨rfl,⟨MB.cs ⟨qc8,qc8,qc8,qc8⟩,qc8⟩⟩⟩⟩)
     rw[c32,cond_true]at j32;obtain⟨x33,g34,j32⟩:=bind_some j32;obtain⟨x35,g36,j32⟩:=bind_some j32;obtain⟨r37,g38,j32⟩:=bind_some j32;try simp only[rnA,Nat.reduceEqDiff,Nat.reduceLT,Nat.reduceAdd,Nat.reduceLeDiff,zar,zal (n:=1) (e:=(eI .i64)) rfl g34,zal (n:=3) (e:=zac) rfl g36]
     refine EvL.fn (zjE g38) rfl rfl (.cons (.zeD (.cons (zaj _ _ (fun h=>nomatch h)) (.cons (zaj _ _ (fun h=>nomatch h)) (.cons (zaj _ _ (fun h=>nomatch h)) .nil)))) (.cons (.lit _) (.cons (.lit _) .nil))) ?_;try simp only[rnA,Nat.reduceEqDiff,Nat.reduceLT,Nat.reduceAdd,Nat.reduceLeDiff]
     cases c39:(r37.2 == 0)
     ·rw[c39,cond_false]at j32;try simp only[rnA,Nat.reduceLT]
      replace j32:=qac j32; subst j32;dsimp only at j17;replace j17:=qac j17; subst j17;dsimp only at h;replace h:=qac h; subst h;exact zdd.ret rfl (.lit _)
     rw[c39,cond_true]at j32;try simp only[rnA,Nat.reduceEqDiff,Nat.reduceLT]
     exact⟨((w64 (v102+1)),r37.1.vars,r37.1.cards,r37.1.w),j32,by rw[hT33]; exact wm0 [.d,.k,.d,.k] ⟨rfl,⟨MB.cs ⟨qc8,qc8,qc8⟩,⟨rfl,⟨MB.cs ⟨qc8,qc8,qc8,qc8⟩,qc8⟩⟩⟩⟩⟩
    rintro⟨b3_0,b3_1,b3_2⟩ rfl;dsimp only at j17;rw[congrFun hT32 (b3_0,b3_1,b3_2)];refine zaa ?_;obtain⟨x40,g41,j17⟩:=bind_some j17;obtain⟨r42,g43,j17⟩:=bind_some j17;try simp only[rnA,Nat.reduceEqDiff,Nat.reduceLT,Nat.reduceAdd,Nat.reduceLeDiff,zar,zal (n:=3) (e:=zac) rfl g14,zas,zal (n:=1) (e:=(eL (eI .i64))) rfl g41]
    refine EvL.fn (zcR g43) rfl rfl (.cons (zaj _ _ (fun h=>nomatch h)) (.cons (zaj _ _ (fun h=>nomatch h)) .nil)) ?_;try simp only[rnA,Nat.reduceEqDiff,Nat.reduceLT]
    cases c44:r42
    ·rw[c44,cond_false]at j17;try simp only[rnA,Nat.reduceLT]
     replace j17:=qac j17; subst j17;dsimp only at h;replace h:=qac h; subst h;exact zdd.ret rfl (.lit _)
    rw[c44,cond_true]at j17;try simp only[rnA,Nat.reduceEqDiff,Nat.reduceLT]
    exact⟨(w64 (v37+1)),j17,by rw[hT28]; exact wm0 [.d,.k] ⟨rfl,⟨MB.cs ⟨qc8,qc8,qc8⟩,qc8⟩⟩⟩
   rw[c27,cond_true]at j17;try simp only[rnA,Nat.reduceLT]
   replace j17:=qac j17; subst j17;dsimp only at h;replace h:=qac h; subst h;exact zdd.ret rfl (.lit _)
  rintro⟨⟩ rfl;dsimp only at h;rw[congrFun hT17 ()];refine zaa ?_;try simp only[rnA,Nat.reduceLT]
  replace h:=qac h; subst h;exact zdd.ret rfl (.lit _)
 rw[c9,cond_true]at h;try simp only[rnA,Nat.reduceLT]
 replace h:=qac h; subst h;exact zdd.ret rfl (.lit _)
end Go.Dc
