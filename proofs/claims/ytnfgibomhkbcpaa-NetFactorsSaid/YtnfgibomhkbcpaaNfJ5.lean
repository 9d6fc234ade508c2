/-
 What r05_Draft_Net computes. Conditions: none.
-/
import Derived.Test.YtnfgibomhkbcpaaNfJ4
set_option linter.unusedSimpArgs false
set_option linter.unusedVariables false
set_option maxRecDepth 100000
set_option maxHeartbeats 4000000
namespace Go.Dc
open Go Go.Mx Go.Lx Go.Proofs
def zbl(p0:S_haruspexref05_Draft)(r5:(List Int)):Nat→Int→Int→(List S_api_Node)→Option (List S_api_Node)
 | 0,_,_,_=>none
 | n+1,v6,v7,l2=>(
bif (decide (v7<(zcL (zda (p0.nodes.length:Int) 1) 5)))then(
((bif (decide (v7<(p0.nodes.length:Int)))then(
(zaP p0.nodes v7).bind fun x9=>
some (x9.card,x9.parents,x9.w))
else(
some (0,0,[])):Option ((Int×Int×(List Int))))).bind fun o=>match o with
|(b4_0,b4_1,b4_2)=>(
(zso .i64 (w64 (v6 * (w64 (2+(w64 (b4_0.tmod 2)))))) (IntKind.u64.wrap (w64 ((w64 ((zcL (zda (p0.nodes.length:Int) 1) 5) - 1)) - v7)))).bind fun q11=>
((bif (decide (100<q11))then(
some 2)
else(
some (w64 (2+(w64 (b4_0.tmod 2))))):Option Int)).bind fun v9=>
(zaP r5 v7).bind fun x14=>
(zaP l2 x14).bind fun x16=>
(zfP l2 x14 (S_api_Node.mk v9 x16.parents x16.rows)).bind fun y18=>
zbl p0 r5 n (w64 (v6 * v9)) (w64 (v7+1)) y18))
else(
some l2))
def zbE(N:Nat)(p0:S_haruspexref05_Draft)(r5:(List Int)):Nat→Int→(List S_api_Node)→Option (List S_api_Node)
 | 0,_,_=>none
 | n+1,v10,l2'=>(
bif (decide (v10<(zcL (zda (p0.nodes.length:Int) 1) 5)))then(
((bif (decide (v10<(p0.nodes.length:Int)))then(
(zaP p0.nodes v10).bind fun x22=>
some (x22.card,x22.parents,x22.w))
else(
some (0,0,[])):Option ((Int×Int×(List Int))))).bind fun o=>match o with
|(b4_0,b4_1,b4_2)=>(
(zaP r5 v10).bind fun x24=>
(zmD r5 v10 x24 (zcL (zda (p0.nodes.length:Int) 1) 5) b4_1 l2').bind fun y26=>
(zmB N (w64 (1+(w64 (p0.grain.tmod 60)))) x24 b4_2 y26).bind fun y28=>
zbE N p0 r5 n (w64 (v10+1)) y28))
else(
some l2'))
def zbT(N:Nat)(p0:S_haruspexref05_Draft):Option S_api_Net:=
(zfB 56 (zcL (zda (p0.nodes.length:Int) 1) 5) (S_api_Node.mk 0 [] [])).bind fun y1=>
(zfB 1 (zcL (zda (p0.nodes.length:Int) 1) 5) 0).bind fun y3=>
(za4 N (S_haruspexref02_Draft.mk y3 0 p0.order)).bind fun r5=>
((zbl p0 r5 ((zcL (zda (p0.nodes.length:Int) 1) 5) - 0+2:Int).toNat 1 0 y1:Option (List S_api_Node))).bind fun l2=>
((zbE N p0 r5 ((zcL (zda (p0.nodes.length:Int) 1) 5) - 0+2:Int).toNat 0 l2:Option (List S_api_Node))).bind fun l2'=>
some (S_api_Net.mk (w64 (1+(w64 (p0.grain.tmod 60)))) l2')
def ze1:C:=
 .seq (rg [oW 1 0,
 ⟨some 2,.alloc [(.int .i64 0),(.slice none 0 0)],none⟩])
 (.seq (rg [oF 16 1 1,
 oL 17 16,
 oE 18 17,
 ⟨some 19,.mm true [(.s 18),(.c (.int .i64 1))],none⟩,
 ⟨some 20,.mm false [(.s 19),(.c (.int .i64 5))],none⟩,
 oM 3 20])
 (.seq (.reg true false [oF 21 0 1,
 oL 22 21,
 ⟨some 23,.bin .rem (.s 22) (.c (.int .u8 60)),none⟩,
 ⟨some 24,.conv .i64 (.s 23),none⟩,
 ⟨some 25,.bin .add (.c (.int .i64 1)) (.s 24),none⟩,
 oM 26 3,
 ⟨some 27,.mk 3 56 [(.int .i64 0),(.slice none 0 0),(.slice none 0 0)] (.s 26) (.s 26),none⟩,
 ⟨some 28,.build [(.int .i64 0),(.slice none 0 0)] [(0,1,(.s 25)),(1,1,(.s 27))],none⟩,
 ⟨some 4,.alloc [(.int .i64 0),(.slice none 0 0)],none⟩,
 oS 2 4 28])
 (.seq (.reg true false [oM 29 3,
 oF 31 2 1,
 oL 32 31,
 ⟨some 30,.mk 1 1 [(.int .u8 0)] (.s 29) (.s 29),none⟩,
 ⟨some 33,.build [(.slice none 0 0),(.int .u16 0),(.slice none 0 0)] [(0,1,(.s 30)),(2,1,(.s 32))],none⟩,
 oU 34 109 33,
 oM 5 34])
 (.seq (rg [oK 6 1])
 (.seq (.seq (rg [oK 7 0])
 (.scope (.block 0 (.loop (.seq (.seq (rg [oM 35 7,
 oM 36 3,
 oB 37 .lss 35 36])
 (.cond (.s 37) (.skip)
 (.exit 0)))
 (.seq (.block 1 (.seq (rg [⟨some 8,.alloc [(.int .u8 0),(.int .u8 0),(.slice none 0 0)],none⟩])
 (.seq (.seq (rg [oM 40 7,
 oF 41 1 1,
 oL 42 41,
 oE 43 42,
 oB 44 .lss 40 43])
 (.scope (.cond (.s 44) (rg [oF 45 1 1,
 oL 46 45,
 oM 47 7,
 oI 48 3 46 47,
 oN 49 3 48,
 oS 3 8 49])
 (.skip))))
 (.seq (rg [oF 50 0 8,
 oL 51 50,
 ⟨some 52,.bin .rem (.s 51) (.c (.int .u8 2)),none⟩,
 ⟨some 53,.conv .i64 (.s 52),none⟩,
 ⟨some 54,.bin .add (.c (.int .i64 2)) (.s 53),none⟩,
 oM 9 54])
 (.seq (.seq (rg [oM 55 6,
 oM 56 9,
 oB 57 .mul 55 56,
 oM 58 3,
 oD 59 .sub 58 1,
 oM 60 7,
 oB 61 .sub 59 60,
 ⟨some 62,.conv .u64 (.s 61),none⟩,
 oB 63 .shl 57 62,
 oD 64 .gtr 63 100])
 (.scope (.cond (.s 64) (rg [oK 9 2])
 (.skip))))
 (.seq (rg [oM 65 6,
 oM 66 9,
 oB 67 .mul 65 66,
 oM 6 67])
 (.reg true false [oF 68 1 4,
 oL 69 68,
 oM 70 5,
 oM 71 7,
 oI 72 1 70 71,
 oL 73 72,
 oM 74 9,
 oI 75 3 69 73,
 oF 76 0 75,
 oS 1 76 74])))))))
 (rg [oM 38 7,
 oD 39 .add 38 1,
 oM 7 39])))))))
 (.seq (.seq (rg [oK 10 0])
 (.scope (.block 2 (.loop (.seq (.seq (rg [oM 77 10,
 oM 78 3,
 oB 79 .lss 77 78])
 (.cond (.s 79) (.skip)
 (.exit 2)))
 (.seq (.block 3 (.seq (rg [⟨some 11,.alloc [(.int .u8 0),(.int .u8 0),(.slice none 0 0)],none⟩])
 (.seq (.seq (rg [oM 82 10,
 oF 83 1 1,
 oL 84 83,
 oE 85 84,
 oB 86 .lss 82 85])
 (.scope (.cond (.s 86) (rg [oF 87 1 1,
 oL 88 87,
 oM 89 10,
 oI 90 3 88 89,
 oN 91 3 90,
 oS 3 11 91])
 (.skip))))
 (.seq (rg [oM 92 5,
 oM 93 10,
 oI 94 1 92 93,
 oL 95 94,
 oM 12 95])
 (.seq (.seq (rg [oK 13 0])
 (.scope (.block 4 (.loop (.seq (.seq (rg [oM 96 13,
 oM 97 3,
 oB 98 .lss 96 97])
 (.cond (.s 98) (.skip)
 (.exit 4)))
 (.seq (.block 5 (.seq (rg [oK 14 0])
 (.scope (.block 6 (.loop (.seq (.seq (rg [oM 101 14,
 oM 102 10,
 oB 103 .lss 101 102])
 (.cond (.s 103) (.skip)
 (.exit 6)))
 (.seq (.block 7 (.seq (.scope (rg [oM 106 5,
 oM 107 14,
 oI 108 1 106 107,
 oL 109 108,
 oM 110 13,
 oB 111 .eql 109 110,
 oM 112 111,
 oFg 113 1 11 112 true,
 oLg 114 113 112 true,
 oMg 115 14 112 true,
 ⟨some 116,.conv .u64 (.s 115),some (112,true)⟩,
 ⟨some 117,.bin .shr (.s 114) (.s 116),some (112,true)⟩,
 ⟨some 118,.bin .and (.s 117) (.c (.int .u8 1)),some (112,true)⟩,
 ⟨some 119,.bin .eql (.s 118) (.c (.int .u8 1)),some (112,true)⟩,
 ⟨some 120,.pick (.s 112) (.s 119) (.c (.bool false)),none⟩,
 oM 121 120,
 oFg 122 1 4 121 true,
 oLg 123 122 121 true,
 oMg 124 12 121 true,
 ⟨some 125,.idxS 3 (.s 123) (.s 124),some (121,true)⟩,
 oFg 126 1 125 121 true,
 oLg 127 126 121 true,
 ⟨some 128,.len (.s 127),some (121,true)⟩,
 oDg 129 .lss 128 3 121 true,
 ⟨some 130,.pick (.s 121) (.s 129) (.c (.bool false)),none⟩]))
 (.scope (.cond (.s 130) (.reg true false [oF 131 1 4,
 oL 132 131,
 oM 133 12,
 oF 134 1 4,
 oL 135 134,
 oM 136 12,
 oI 137 3 135 136,
 oF 138 1 137,
 oL 139 138,
 oM 140 13,
 ⟨some 141,.bsl 1 1 [(.int .i64 0)] [(0,(.s 140))],none⟩,
 ⟨none,.avo [(.s 131)] (.s 139),none⟩,
 oT 142 1 8 139 141,
 oI 143 3 132 133,
 oF 144 1 143,
 oS 1 144 142])
 (.skip)))))
 (rg [oM 104 14,
 oD 105 .add 104 1,
 oM 14 105]))))))))
 (rg [oM 99 13,
 oD 100 .add 99 1,
 oM 13 100])))))))
 (.seq (rg [oK 15 0])
 (.scope (.block 8 (.loop (.seq (.seq (rg [oM 145 15,
 oN 146 2 4,
 oM 147 12,
 oV 148 83 146 147,
 oU 149 82 148,
 oB 150 .lss 145 149])
 (.cond (.s 150) (.skip)
 (.exit 8)))
 (.seq (.block 9 (.reg true true [oF 153 1 4,
 oL 154 153,
 oM 155 12,
 oF 156 1 4,
 oL 157 156,
 oM 158 12,
 oI 159 3 157 158,
 oF 160 2 159,
 oL 161 160,
 oF 162 0 4,
 oL 163 162,
 oF 164 1 4,
 oL 165 164,
 oM 166 12,
 oI 167 3 165 166,
 oF 168 0 167,
 oL 169 168,
 oF 170 2 11,
 oL 171 170,
 oM 172 15,
 oF 173 1 4,
 oL 174 173,
 oM 175 12,
 oI 176 3 174 175,
 oF 177 0 176,
 oL 178 177,
 oD 179 .add 178 1,
 oB 180 .mul 172 179,
 ⟨some 181,.call 110 [(.s 163),(.s 169),(.s 171),(.s 180)],none⟩,
 ⟨some 182,.bsl 1 1 [(.slice none 0 0)] [(0,(.s 181))],none⟩,
 ⟨none,.avo [(.s 153)] (.s 161),none⟩,
 oT 183 1 24 161 182,
 oI 184 3 154 155,
 oF 185 2 184,
 oS 1 185 183]))
 (rg [oM 151 15,
 oD 152 .add 151 1,
 oM 15 152]))))))))))))
 (rg [oM 80 10,
 oD 81 .add 80 1,
 oM 10 81])))))))
 (.seq (rg [oN 186 2 4,
 oS 2 2 186])
 (.ret))))))))
theorem zgQ:zkn mC 48=some (187,ze1,[.cell 2 (some 2)],false):=zb5 (by kernel_rfl)
theorem zeM{N:Nat}{p0:S_haruspexref05_Draft}{r:S_api_Net}(h:zbT N p0=some r):Lx.Fn mC 48 [(.agg [(dU8 p0.grain),(fzE false zaj p0.nodes),(fzE false (eI .u8) p0.order)])] (.agg [(dI r.grain),(fzE true zaa r.nodes)]):=by
 refine Fn.of zgQ (zbF rfl) (qaf rfl) ?_;unfold zbT at h;simp only[ze1,ze3];refine zab ?_;obtain⟨y1,g2,h⟩:=bind_some h;obtain⟨y3,g4,h⟩:=bind_some h;obtain⟨r5,g6,h⟩:=bind_some h;try simp only[rnA,Nat.reduceEqDiff,Nat.reduceLT,Nat.reduceAdd,Nat.reduceLeDiff,Int.reduceBEq,reduceCtorEq,zam,(za8 g2).1.1,(za8 g2).1.2,qce,(show List.replicate (Int.toNat (zcL (zda (p0.nodes.length:Int) 1) 5)) [(dI 0),zbs,zbs]=y1.map (zag.c true)from zdy g2 (zag.c true)),(za8 g4).1.2,(show List.replicate (Int.toNat (zcL (zda (p0.nodes.length:Int) 1) 5)) [(dU8 0)]=y3.map ((eI .u8).c true)from zdy g4 ((eI .u8).c true))]
 refine EvL.fn (zev g6) rfl rfl (.cons (.zc5 (.cons (zal (e:=(eI .u8)) (t:=true) rfl (.inl rfl) (zcl g4).symm (zcl g4).symm (fun k h=>by cases h; exact qaj _) (fun h=>nomatch h)) (.cons (.lit _) (.cons (zat _ _ (fun h=>nomatch h)) .nil)))) .nil) ?_;try simp only[rnA,Nat.reduceEqDiff,Nat.reduceLT,reduceCtorEq]
 obtain⟨o7,j7,h⟩:=bind_some h;obtain⟨T7,hT7⟩:=mkT fun a:(List S_api_Node)=>⟨187,[(1,(.ptr 0 0)),(2,(.ptr 1 0)),(3,(dI (zcL (zda (p0.nodes.length:Int) 1) 5))),(4,(.ptr 3 0)),(5,(fzE true (eI .i64) r5))],[.cells [(dU8 p0.grain),(fzE false zaj p0.nodes),(fzE false (eI .u8) p0.order)],.cells [(dI 0),zbs],.els 3 (a.map (zag.c true)),.cells [(dI (w64 (1+(w64 (p0.grain.tmod 60))))),(.sl 2 0 3 (Int.toNat (zcL (zda (p0.nodes.length:Int) 1) 5)) (some (Int.toNat (zcL (zda (p0.nodes.length:Int) 1) 5))) (Int.toNat (zcL (zda (p0.nodes.length:Int) 1) 5)))]]⟩
 refine EvL.jn T7 (fun a=>a=o7∧a.length=(Int.toNat (zcL (zda (p0.nodes.length:Int) 1) 5))) ?_ ?_
 ·refine zab ?_;simp only[rnA];obtain⟨T12,hT12⟩:=mkT fun a:(Int×Int×(List S_api_Node))=>⟨187,[(1,(.ptr 0 0)),(2,(.ptr 1 0)),(3,(dI (zcL (zda (p0.nodes.length:Int) 1) 5))),(4,(.ptr 3 0)),(5,(fzE true (eI .i64) r5)),(6,(dI a.1)),(7,(dI a.2.1))],[.cells [(dU8 p0.grain),(fzE false zaj p0.nodes),(fzE false (eI .u8) p0.order)],.cells [(dI 0),zbs],.els 3 (a.2.2.map (zag.c true)),.cells [(dI (w64 (1+(w64 (p0.grain.tmod 60))))),(.sl 2 0 3 (Int.toNat (zcL (zda (p0.nodes.length:Int) 1) 5)) (some (Int.toNat (zcL (zda (p0.nodes.length:Int) 1) 5))) (Int.toNat (zcL (zda (p0.nodes.length:Int) 1) 5)))]]⟩
  refine EvL.rounds (α:=(Int×Int×(List S_api_Node))) T12 (fun n a=>zbl p0 r5 n a.1 a.2.1 a.2.2=some o7∧a.2.2.length=(Int.toNat (zcL (zda (p0.nodes.length:Int) 1) 5))) ((zcL (zda (p0.nodes.length:Int) 1) 5) - 0+2:Int).toNat (1,0,y1) (by rw[hT12]; exact wm0 [.k,.k,.k,.k] ⟨MB.cs ⟨qdc,qdc,qdc,qdc⟩,⟨MB.cs ⟨qdc,qdc,qdc⟩,⟨MB.es zag true y1,⟨MB.cs ⟨qdc,rfl,qdc⟩,qdc⟩⟩⟩⟩) ⟨j7,zcl g2⟩ (fun _ h=>nomatch (show(none:Option (List S_api_Node))=some o7 from h.1)) ?_;rintro n ⟨v6,v7,l2⟩ ⟨j7,el2⟩;simp only[zbl]at j7;rw[congrFun hT12 (v6,v7,l2)];refine zab ?_;try simp only[rnA,Nat.reduceEqDiff,Nat.reduceLT]
  cases c7:(decide (v7<(zcL (zda (p0.nodes.length:Int) 1) 5)))
  ·rw[c7,cond_false]at j7;try simp only[rnA]
   replace j7:=qac j7; subst j7;exact⟨_,⟨rfl,el2⟩,by rw[hT7]; exact wm0 [.k,.k,.k,.k] ⟨MB.cs ⟨qdc,qdc,qdc,qdc⟩,⟨MB.cs ⟨qdc,qdc,qdc⟩,⟨MB.es zag true l2,⟨MB.cs ⟨qdc,rfl,qdc⟩,qdc⟩⟩⟩⟩⟩
  rw[c7,cond_true]at j7;try simp only[rnA,Nat.reduceEqDiff,Nat.reduceLT,Nat.reduceAdd,zam]
  obtain⟨o13,j13,j7⟩:=bind_some j7;obtain⟨T13,hT13⟩:=mkT fun a:(Int×Int×(List Int))=>⟨187,[(1,(.ptr 0 0)),(2,(.ptr 1 0)),(3,(dI (zcL (zda (p0.nodes.length:Int) 1) 5))),(4,(.ptr 3 0)),(5,(fzE true (eI .i64) r5)),(6,(dI v6)),(7,(dI v7)),(8,(.ptr 4 0))],[.cells [(dU8 p0.grain),(fzE false zaj p0.nodes),(fzE false (eI .u8) p0.order)],.cells [(dI 0),zbs],.els 3 (l2.map (zag.c true)),.cells [(dI (w64 (1+(w64 (p0.grain.tmod 60))))),(.sl 2 0 3 (Int.toNat (zcL (zda (p0.nodes.length:Int) 1) 5)) (some (Int.toNat (zcL (zda (p0.nodes.length:Int) 1) 5))) (Int.toNat (zcL (zda (p0.nodes.length:Int) 1) 5)))],.cells [(dU8 a.1),(dU8 a.2.1),(fzE false (eI .u8) a.2.2)]]⟩
  refine EvL.jn T13 (fun a=>a=o13) ?_ ?_
  ·refine zab ?_;try simp only[rnA,Nat.reduceEqDiff]
   cases c8:(decide (v7<(p0.nodes.length:Int)))
   ·rw[c8,cond_false]at j13;try simp only[rnA]
    replace j13:=qac j13; subst j13;exact lfj hT13 rfl (wm0 [.k,.k,.k,.k,.k] ⟨MB.cs ⟨qdc,qdc,qdc,qdc⟩,⟨MB.cs ⟨qdc,qdc,qdc⟩,⟨MB.es zag true l2,⟨MB.cs ⟨qdc,rfl,qdc⟩,⟨MB.zwi (.cons (.same trivial) (.cons (.same trivial) (.cons (.fr (zkN (eI .u8))) .nil))),qdc⟩⟩⟩⟩⟩)
   rw[c8,cond_true]at j13;obtain⟨x9,g10,j13⟩:=bind_some j13;try simp only[rnA,Nat.reduceEqDiff,Nat.reduceLT,Nat.reduceAdd,Nat.reduceLeDiff,zaE,zak (n:=3) (e:=zaj) rfl g10]
   replace j13:=qac j13; subst j13;exact lfj hT13 rfl (wm0 [.k,.k,.k,.k,.k] ⟨MB.cs ⟨qdc,qdc,qdc,qdc⟩,⟨MB.cs ⟨qdc,qdc,qdc⟩,⟨MB.es zag true l2,⟨MB.cs ⟨qdc,rfl,qdc⟩,⟨MB.cs ⟨qdc,qdc,qdc,qdc⟩,qdc⟩⟩⟩⟩⟩)
  rintro⟨b4_0,b4_1,b4_2⟩ rfl;dsimp only at j7;rw[congrFun hT13 (b4_0,b4_1,b4_2)];refine zab ?_;obtain⟨q11,g12,j7⟩:=bind_some j7;try simp only[rnA,Nat.reduceEqDiff,Nat.reduceLT,Int.reduceBEq,(zd8 g12).1,(zd8 g12).2]
  obtain⟨o14,j14,j7⟩:=bind_some j7;obtain⟨T14,hT14⟩:=mkT fun a:Int=>⟨187,[(1,(.ptr 0 0)),(2,(.ptr 1 0)),(3,(dI (zcL (zda (p0.nodes.length:Int) 1) 5))),(4,(.ptr 3 0)),(5,(fzE true (eI .i64) r5)),(6,(dI v6)),(7,(dI v7)),(9,(dI a))],[.cells [(dU8 p0.grain),(fzE false zaj p0.nodes),(fzE false (eI .u8) p0.order)],.cells [(dI 0),zbs],.els 3 (l2.map (zag.c true)),.cells [(dI (w64 (1+(w64 (p0.grain.tmod 60))))),(.sl 2 0 3 (Int.toNat (zcL (zda (p0.nodes.length:Int) 1) 5)) (some (Int.toNat (zcL (zda (p0.nodes.length:Int) 1) 5))) (Int.toNat (zcL (zda (p0.nodes.length:Int) 1) 5)))]]⟩
  refine EvL.jn T14 (fun a=>a=o14) ?_ ?_
  ·refine zab ?_;try simp only[rnA,Nat.reduceEqDiff]
   cases c13:(decide (100<q11))
   ·rw[c13,cond_false]at j14;try simp only[rnA]
    replace j14:=qac j14; subst j14;exact lfj hT14 rfl (wm0 [.k,.k,.k,.k] ⟨MB.cs ⟨qdc,qdc,qdc,qdc⟩,⟨MB.cs ⟨qdc,qdc,qdc⟩,⟨MB.es zag true l2,⟨MB.cs ⟨qdc,rfl,qdc⟩,qdc⟩⟩⟩⟩)
   rw[c13,cond_true]at j14;try simp only[rnA,Nat.reduceLT]
   replace j14:=qac j14; subst j14;exact lfj hT14 rfl (wm0 [.k,.k,.k,.k] ⟨MB.cs ⟨qdc,qdc,qdc,qdc⟩,⟨MB.cs ⟨qdc,qdc,qdc⟩,⟨MB.es zag true l2,⟨MB.cs ⟨qdc,rfl,qdc⟩,qdc⟩⟩⟩⟩)
  rintro v9 rfl;rw[congrFun hT14 v9];refine zab ?_;obtain⟨x14,g15,j7⟩:=bind_some j7;obtain⟨x16,g17,j7⟩:=bind_some j7;obtain⟨y18,g19,j7⟩:=bind_some j7;try simp only[rnA,Nat.reduceEqDiff,Nat.reduceLT,Nat.reduceAdd,Nat.reduceLeDiff,zee,zak (n:=1) (e:=(eI .i64)) rfl g15,el2,zbk g17,(show x14<(((Int.toNat (zcL (zda (p0.nodes.length:Int) 1) 5)):Nat):Int)from el2 ▸ zbD g17),zaZ g17 (zag.c true),(show(l2.map (zag.c true)).set x14.toNat [(dI v9),(nE true (eI .i64) x16.parents),(nE true (eL (eI .i64)) x16.rows)]=y18.map (zag.c true)from zb1 g19 (zag.c true))]
  exact⟨((w64 (v6 * v9)),(w64 (v7+1)),y18),⟨j7,(zbd g19).trans el2⟩,by rw[hT12]; exact wm0 [.k,.k,.k,.k] ⟨MB.cs ⟨qdc,qdc,qdc,qdc⟩,⟨MB.cs ⟨qdc,qdc,qdc⟩,⟨MB.es zag true y18,⟨MB.cs ⟨qdc,rfl,qdc⟩,qdc⟩⟩⟩⟩⟩
 rintro l2 ⟨rfl,el2⟩;rw[congrFun hT7 l2];refine zab ?_;try simp only[rnA,Nat.reduceLT]
 obtain⟨o18,j18,h⟩:=bind_some h;obtain⟨T18,hT18⟩:=mkT fun a:(List S_api_Node)=>⟨187,[(2,(.ptr 1 0)),(4,(.ptr 3 0))],[.gone,.cells [(dI 0),zbs],.els 3 (a.map (zag.c true)),.cells [(dI (w64 (1+(w64 (p0.grain.tmod 60))))),(.sl 2 0 3 (Int.toNat (zcL (zda (p0.nodes.length:Int) 1) 5)) (some (Int.toNat (zcL (zda (p0.nodes.length:Int) 1) 5))) (Int.toNat (zcL (zda (p0.nodes.length:Int) 1) 5)))]]⟩
 refine EvL.jn T18 (fun a=>a=o18∧a.length=(Int.toNat (zcL (zda (p0.nodes.length:Int) 1) 5))) ?_ ?_
 ·refine zab ?_;simp only[rnA];obtain⟨T21,hT21⟩:=mkT fun a:(Int×(List S_api_Node))=>⟨187,[(1,(.ptr 0 0)),(2,(.ptr 1 0)),(3,(dI (zcL (zda (p0.nodes.length:Int) 1) 5))),(4,(.ptr 3 0)),(5,(fzE true (eI .i64) r5)),(10,(dI a.1))],[.cells [(dU8 p0.grain),(fzE false zaj p0.nodes),(fzE false (eI .u8) p0.order)],.cells [(dI 0),zbs],.els 3 (a.2.map (zag.c true)),.cells [(dI (w64 (1+(w64 (p0.grain.tmod 60))))),(.sl 2 0 3 (Int.toNat (zcL (zda (p0.nodes.length:Int) 1) 5)) (some (Int.toNat (zcL (zda (p0.nodes.length:Int) 1) 5))) (Int.toNat (zcL (zda (p0.nodes.length:Int) 1) 5)))]]⟩
  refine EvL.rounds (α:=(Int×(List S_api_Node))) T21 (fun n a=>zbE N p0 r5 n a.1 a.2=some o18∧a.2.length=(Int.toNat (zcL (zda (p0.nodes.length:Int) 1) 5))) ((zcL (zda (p0.nodes.length:Int) 1) 5) - 0+2:Int).toNat (0,l2) (by rw[hT21]; exact wm0 [.k,.k,.k,.k] ⟨MB.cs ⟨qdc,qdc,qdc,qdc⟩,⟨MB.cs ⟨qdc,qdc,qdc⟩,⟨MB.es zag true l2,⟨MB.cs ⟨qdc,rfl,qdc⟩,qdc⟩⟩⟩⟩) ⟨j18,el2⟩ (fun _ h=>nomatch (show(none:Option (List S_api_Node))=some o18 from h.1)) ?_;rintro n ⟨v10,l2'⟩ ⟨j18,el2'⟩;simp only[zbE]at j18;rw[congrFun hT21 (v10,l2')];refine zab ?_;try simp only[rnA,Nat.reduceEqDiff,Nat.reduceLT]
  cases c20:(decide (v10<(zcL (zda (p0.nodes.length:Int) 1) 5)))
  ·rw[c20,cond_false]at j18;try simp only[rnA]
   replace j18:=qac j18; subst j18;exact⟨_,⟨rfl,el2'⟩,by rw[hT18]; exact wm0 [.d,.k,.k,.k] ⟨rfl,⟨MB.cs ⟨qdc,qdc,qdc⟩,⟨MB.es zag true l2',⟨MB.cs ⟨qdc,rfl,qdc⟩,qdc⟩⟩⟩⟩⟩
  rw[c20,cond_true]at j18;try simp only[rnA,Nat.reduceEqDiff,Nat.reduceLT,Nat.reduceAdd,zam]
  obtain⟨o22,j22,j18⟩:=bind_some j18;obtain⟨T22,hT22⟩:=mkT fun a:(Int×Int×(List Int))=>⟨187,[(1,(.ptr 0 0)),(2,(.ptr 1 0)),(3,(dI (zcL (zda (p0.nodes.length:Int) 1) 5))),(4,(.ptr 3 0)),(5,(fzE true (eI .i64) r5)),(10,(dI v10)),(11,(.ptr 4 0))],[.cells [(dU8 p0.grain),(fzE false zaj p0.nodes),(fzE false (eI .u8) p0.order)],.cells [(dI 0),zbs],.els 3 (l2'.map (zag.c true)),.cells [(dI (w64 (1+(w64 (p0.grain.tmod 60))))),(.sl 2 0 3 (Int.toNat (zcL (zda (p0.nodes.length:Int) 1) 5)) (some (Int.toNat (zcL (zda (p0.nodes.length:Int) 1) 5))) (Int.toNat (zcL (zda (p0.nodes.length:Int) 1) 5)))],.cells [(dU8 a.1),(dU8 a.2.1),(fzE false (eI .u8) a.2.2)]]⟩
  refine EvL.jn T22 (fun a=>a=o22) ?_ ?_
  ·refine zab ?_;try simp only[rnA,Nat.reduceEqDiff]
   cases c21:(decide (v10<(p0.nodes.length:Int)))
   ·rw[c21,cond_false]at j22;try simp only[rnA]
    replace j22:=qac j22; subst j22;exact lfj hT22 rfl (wm0 [.k,.k,.k,.k,.k] ⟨MB.cs ⟨qdc,qdc,qdc,qdc⟩,⟨MB.cs ⟨qdc,qdc,qdc⟩,⟨MB.es zag true l2',⟨MB.cs ⟨qdc,rfl,qdc⟩,⟨MB.zwi (.cons (.same trivial) (.cons (.same trivial) (.cons (.fr (zkN (eI .u8))) .nil))),qdc⟩⟩⟩⟩⟩)
   rw[c21,cond_true]at j22;obtain⟨x22,g23,j22⟩:=bind_some j22;try simp only[rnA,Nat.reduceEqDiff,Nat.reduceLT,Nat.reduceAdd,Nat.reduceLeDiff,zaE,zak (n:=3) (e:=zaj) rfl g23]
   replace j22:=qac j22; subst j22;exact lfj hT22 rfl (wm0 [.k,.k,.k,.k,.k] ⟨MB.cs ⟨qdc,qdc,qdc,qdc⟩,⟨MB.cs ⟨qdc,qdc,qdc⟩,⟨MB.es zag true l2',⟨MB.cs ⟨qdc,rfl,qdc⟩,⟨MB.cs ⟨qdc,qdc,qdc,qdc⟩,qdc⟩⟩⟩⟩⟩)
  rintro⟨b4_0,b4_1,b4_2⟩ rfl;dsimp only at j18;rw[congrFun hT22 (b4_0,b4_1,b4_2)];refine zab ?_;obtain⟨x24,g25,j18⟩:=bind_some j18;try simp only[rnA,Nat.reduceEqDiff,Nat.reduceLT,zak (n:=1) (e:=(eI .i64)) rfl g25]
  obtain⟨y26,g27,j18⟩:=bind_some j18;refine EvL.zdJ (S':=⟨187,[(1,(.ptr 0 0)),(2,(.ptr 1 0)),(3,(dI (zcL (zda (p0.nodes.length:Int) 1) 5))),(4,(.ptr 3 0)),(5,(fzE true (eI .i64) r5)),(10,(dI v10)),(11,(.ptr 4 0)),(12,(dI x24)),(13,(dI 0))],[.cells [(dU8 p0.grain),(fzE false zaj p0.nodes),(fzE false (eI .u8) p0.order)],.cells [(dI 0),zbs],.els 3 (l2'.map (zag.c true)),.cells [(dI (w64 (1+(w64 (p0.grain.tmod 60))))),(.sl 2 0 3 (Int.toNat (zcL (zda (p0.nodes.length:Int) 1) 5)) (some (Int.toNat (zcL (zda (p0.nodes.length:Int) 1) 5))) (Int.toNat (zcL (zda (p0.nodes.length:Int) 1) 5)))],.cells [(dU8 b4_0),(dU8 b4_1),(fzE false (eI .u8) b4_2)]]⟩) (wm0 [.k,.k,.k,.k,.k] ⟨MB.cs ⟨qdc,qdc,qdc,qdc⟩,⟨MB.cs ⟨qdc,qdc,qdc⟩,⟨MB.es zag true l2',⟨MB.cs ⟨qdc,rfl,qdc⟩,⟨MB.cs ⟨qdc,qdc,qdc,qdc⟩,qdc⟩⟩⟩⟩⟩) ?_;refine zyc g27 (fun kp=>⟨qdc,qdc,qdc,qdc⟩) (fun kp=>⟨qdc,qdc,qdc⟩) (fun kp=>trivial) (fun kp=>trivial) el2' (zab ?_);try simp only[rnA,Nat.reduceLT]
  obtain⟨y28,g29,j18⟩:=bind_some j18;refine EvL.zdJ (S':=⟨187,[(1,(.ptr 0 0)),(2,(.ptr 1 0)),(3,(dI (zcL (zda (p0.nodes.length:Int) 1) 5))),(4,(.ptr 3 0)),(5,(fzE true (eI .i64) r5)),(10,(dI v10)),(11,(.ptr 4 0)),(12,(dI x24)),(15,(dI 0))],[.cells [(dU8 p0.grain),(fzE false zaj p0.nodes),(fzE false (eI .u8) p0.order)],.cells [(dI 0),zbs],.els 3 (y26.map (zag.c true)),.cells [(dI (w64 (1+(w64 (p0.grain.tmod 60))))),(.sl 2 0 3 (Int.toNat (zcL (zda (p0.nodes.length:Int) 1) 5)) (some (Int.toNat (zcL (zda (p0.nodes.length:Int) 1) 5))) (Int.toNat (zcL (zda (p0.nodes.length:Int) 1) 5)))],.cells [(dU8 b4_0),(dU8 b4_1),(fzE false (eI .u8) b4_2)]]⟩) (wm0 [.k,.k,.k,.k,.k] ⟨MB.cs ⟨qdc,qdc,qdc,qdc⟩,⟨MB.cs ⟨qdc,qdc,qdc⟩,⟨MB.es zag true y26,⟨MB.cs ⟨qdc,rfl,qdc⟩,⟨MB.cs ⟨qdc,qdc,qdc,qdc⟩,qdc⟩⟩⟩⟩⟩) ?_;refine zx8 g29 (fun kp=>⟨qdc,qdc,qdc,qdc⟩) (fun kp=>⟨qdc,qdc,qdc⟩) (fun kp=>trivial) (fun kp=>trivial) ((ziP g27).trans el2') (zab ?_);try simp only[rnA,Nat.reduceEqDiff,Nat.reduceLT]
  exact⟨((w64 (v10+1)),y28),⟨j18,((zox g29).trans ((ziP g27).trans el2'))⟩,by rw[hT21]; exact wm0 [.k,.k,.k,.k] ⟨MB.cs ⟨qdc,qdc,qdc,qdc⟩,⟨MB.cs ⟨qdc,qdc,qdc⟩,⟨MB.es zag true y28,⟨MB.cs ⟨qdc,rfl,qdc⟩,qdc⟩⟩⟩⟩⟩
 rintro l2' ⟨rfl,el2'⟩;rw[congrFun hT18 l2'];refine zab ?_;try simp only[rnA,Nat.reduceEqDiff,Nat.reduceLT,Nat.reduceAdd,Nat.reduceLeDiff]
 replace h:=qac h; subst h;exact zbO.ret rfl (.zc5 (.cons (.lit _) (.cons (zav (e:=zaa) rfl (.inl rfl) (by rw[qaw]; exact(el2').symm) (by rw[qaw]; exact(el2').symm) (fun k h=>by cases h; exact qaj _) (zhu (fun _=>rfl) l2')) .nil)))
def zaY(p1:S_api_Node)(p0:S_net_network):Nat→Int→Int→Option Int
 | 0,_,_=>none
 | n+1,v5,v16=>(
bif (decide (v16<(p1.parents.length:Int)))then(
(zaP p1.parents v16).bind fun x2=>
(zaP p0.cards x2).bind fun x4=>
zaY p1 p0 n (w64 (v5 * x4)) (w64 (v16+1)))
else(
some v5))
def zaz(y11:(Int×(List Int))):Nat→Int→Int→Option (Out Int Bool)
 | 0,_,_=>none
 | n+1,v10,v42=>(
bif (decide (v42<(y11.2.length:Int)))then(
(zaP y11.2 v42).bind fun x13=>
((bif (decide (x13<0))then(
some true)
else(
some (decide (v10<x13))):Option Bool)).bind fun v52=>
bif v52 then(
some (.ret false))
else(
zaz y11 n (w64 (v10 - x13)) (w64 (v42+1))))
else(
some (.go v10)))
def zaw(p0:S_net_network)(p1:S_api_Node):List (Int×(List Int))→Option (Out Unit Bool)
 | []=>some (.go ())
 | y11 :: ys=>(
((zaz y11 ((y11.2.length:Int) - 0+2:Int).toNat p0.net.grain 0:Option (Out Int Bool))).bind fun o=>match o with
| .go v10=>(
((bif ((y11.2.length:Int)== p1.card)then(
some (!(v10 == 0)))
else(
some true):Option Bool)).bind fun v65=>
bif v65 then(
some (.ret false))
else(
zaw p0 p1 ys))
| .ret r=>some (.ret r))
def zaN(p0:S_net_network)(p1:S_api_Node):Option Bool:=
((zaY p1 p0 ((p1.parents.length:Int) - 0+2:Int).toNat 1 0:Option Int)).bind fun v5=>
bif ((p1.rows.length:Int)== v5)then(
(zdI p1).bind fun r7=>
(ze0 r7.rows).bind fun u9=>
((zaw p0 p1 (znT r7.rows):Option (Out Unit Bool))).bind fun o=>match o with
| .go _=>(
some true)
| .ret r=>some r)
else(
some false)
theorem zfi{p0:S_net_network}{p1:S_api_Node}{r:Bool}(h:zaN p0 p1=some r):Lx.Fn mC 123 [(.agg [(dI p0.net.grain),(fzE false zaa p0.net.nodes),(fzE false (eI .i64) p0.cards),(fzE false (eI .u64) p0.sets),(fzE false (eI .i64) p0.order)]),(.agg [(dI p1.card),(fzE false (eI .i64) p1.parents),(fzE false (eL (eI .i64)) p1.rows)])] (dB r):=by
 refine fnO (by conv=>lhs; cbv) ?_;unfold zaN at h;refine zab ?_;try simp only[rnA,Nat.reduceEqDiff,Nat.reduceLT,Nat.reduceAdd,reduceCtorEq,zam]
 obtain⟨o1,j1,h⟩:=bind_some h;obtain⟨T1,hT1⟩:=mkT fun a:Int=>⟨66,[(2,(.ptr 0 0)),(3,(.ptr 1 0)),(4,(.ptr 2 0)),(5,(dI a))],[.cells [(dI p0.net.grain),(fzE false zaa p0.net.nodes),(fzE false (eI .i64) p0.cards),(fzE false (eI .u64) p0.sets),(fzE false (eI .i64) p0.order)],.cells [(dI p1.card),(fzE false (eI .i64) p1.parents),(fzE false (eL (eI .i64)) p1.rows)],.cells [(dB false)]]⟩
 refine EvL.jn T1 (fun a=>a=o1) ?_ ?_
 ·refine zab ?_;simp only[rnA];obtain⟨T2,hT2⟩:=mkT fun a:(Int×Int)=>⟨66,[(2,(.ptr 0 0)),(3,(.ptr 1 0)),(4,(.ptr 2 0)),(5,(dI a.1)),(14,(fzE false (eI .i64) p1.parents)),(15,(dI (p1.parents.length:Int))),(16,(dI a.2))],[.cells [(dI p0.net.grain),(fzE false zaa p0.net.nodes),(fzE false (eI .i64) p0.cards),(fzE false (eI .u64) p0.sets),(fzE false (eI .i64) p0.order)],.cells [(dI p1.card),(fzE false (eI .i64) p1.parents),(fzE false (eL (eI .i64)) p1.rows)],.cells [(dB false)]]⟩
  refine EvL.rounds (α:=(Int×Int)) T2 (fun n a=>zaY p1 p0 n a.1 a.2=some o1) ((p1.parents.length:Int) - 0+2:Int).toNat (1,0) (by rw[hT2]; exact wm0 [.k,.k,.k] ⟨MB.cs ⟨qdc,qdc,qdc,qdc,qdc,qdc⟩,⟨MB.cs ⟨qdc,qdc,qdc,qdc⟩,⟨MB.cs ⟨qdc,qdc⟩,qdc⟩⟩⟩) j1 (fun _ h=>nomatch (show(none:Option Int)=some o1 from h)) ?_;rintro n ⟨v5,v16⟩ j1;simp only[zaY]at j1;rw[congrFun hT2 (v5,v16)];refine zab ?_;try simp only[rnA,Nat.reduceEqDiff,Nat.reduceLT]
  cases c1:(decide (v16<(p1.parents.length:Int)))
  ·rw[c1,cond_false]at j1;try simp only[rnA]
   replace j1:=qac j1; subst j1;exact lfj hT1 rfl (wm0 [.k,.k,.k] ⟨MB.cs ⟨qdc,qdc,qdc,qdc,qdc,qdc⟩,⟨MB.cs ⟨qdc,qdc,qdc,qdc⟩,⟨MB.cs ⟨qdc,qdc⟩,qdc⟩⟩⟩)
  rw[c1,cond_true]at j1;obtain⟨x2,g3,j1⟩:=bind_some j1;obtain⟨x4,g5,j1⟩:=bind_some j1;try simp only[rnA,Nat.reduceEqDiff,Nat.reduceLT,zak (n:=1) (e:=(eI .i64)) rfl g3,zak (n:=1) (e:=(eI .i64)) rfl g5]
  exact⟨((w64 (v5 * x4)),(w64 (v16+1))),j1,by rw[hT2]; exact wm0 [.k,.k,.k] ⟨MB.cs ⟨qdc,qdc,qdc,qdc,qdc,qdc⟩,⟨MB.cs ⟨qdc,qdc,qdc,qdc⟩,⟨MB.cs ⟨qdc,qdc⟩,qdc⟩⟩⟩⟩
 rintro v5 rfl;rw[congrFun hT1 v5];refine zab ?_;try simp only[rnA,Nat.reduceEqDiff,Nat.reduceLT,zam]
 cases c6:((p1.rows.length:Int)== v5)
 ·rw[c6,cond_false]at h;try simp only[rnA,Nat.reduceEqDiff,Nat.reduceLeDiff]
  replace h:=qac h; subst h;exact zbO.ret rfl (.lit _)
 rw[c6,cond_true]at h;obtain⟨r7,g8,h⟩:=bind_some h;try simp only[rnA,Nat.reduceEqDiff,Nat.reduceLT,Nat.reduceAdd,Nat.reduceLeDiff]
 refine EvL.fnS (zhJ g8) rfl rfl (.cons (Mzs.agg (.cons (.lit _) (.cons (zen _ _ (fun h=>by cases h<;>contradiction)) (.cons (zen _ _ (fun h=>by cases h<;>contradiction)) .nil)))) .nil) ⟨⟨qdc,(zcu _ _),(zcu _ _),qdc⟩,qdc⟩ ⟨qdc,⟨⟨rfl,zaa.fr _⟩,qdc⟩⟩ ?_;try simp only[rnA,Nat.reduceLT,zad]
 obtain⟨u9,g10,h⟩:=bind_some h;obtain⟨o12,j12,h⟩:=bind_some h;obtain⟨T12,hT12⟩:∃ T:Unit→List LB,T=(fun a=>[.cells [(dI p0.net.grain),(fzE false zaa p0.net.nodes),(fzE false (eI .i64) p0.cards),(fzE false (eI .u64) p0.sets),(fzE false (eI .i64) p0.order)],.cells [(dI p1.card),(fzE false (eI .i64) p1.parents),(fzE false (eL (eI .i64)) p1.rows)],.cells [(dB false)]]):=⟨_,rfl⟩;refine EvL.zdJ (S':=⟨66,[(2,(.ptr 0 0)),(3,(.ptr 1 0)),(4,(.ptr 2 0)),(34,(.clo 156 [] [(.fptr false (zaa.c false r7))]))],T12 ()⟩) (by rw[hT12]; exact wm0 [.k,.k,.k] ⟨MB.cs ⟨qdc,qdc,qdc,qdc,qdc,qdc⟩,⟨MB.cs ⟨qdc,qdc,qdc,qdc⟩,⟨MB.cs ⟨qdc,qdc⟩,qdc⟩⟩⟩) ?_;refine EvL.zgE (n0:=3) (zgX r7 g10) rfl (bm:=.block 3 (.seq (.reg false false [⟨some 37,.fld 0 (.s 2),none⟩,⟨some 38,.fld 0 (.s 37),none⟩,⟨some 39,.load none (.s 38),none⟩,⟨some 10,.mov (.s 39),none⟩]) (.seq (.seq (.reg false false [⟨some 40,.mov (.s 9),none⟩,⟨some 41,.len (.s 40),none⟩,⟨some 42,.mov (.c (.int .i64 0)),none⟩]) (.scope (.block 4 (.loop (.seq (.reg false false [⟨some 43,.bin .lss (.s 42) (.s 41),none⟩]) (.seq (.cond (.s 43) (.skip) (.exit 4)) (.seq (.block 5 (.seq (.reg false false [⟨some 44,.idxS 1 (.s 40) (.s 42),none⟩,⟨some 45,.load none (.s 44),none⟩,⟨some 12,.mov (.s 45),none⟩]) (.seq (.seq (.scope (.reg false false [⟨some 46,.mov (.s 12),none⟩,⟨some 47,.bin .lss (.s 46) (.c (.int .i64 0)),none⟩,⟨some 48,.mov (.s 47),none⟩,⟨some 49,.mov (.s 12),some (48,false)⟩,⟨some 50,.mov (.s 10),some (48,false)⟩,⟨some 51,.bin .gtr (.s 49) (.s 50),some (48,false)⟩,⟨some 52,.pick (.s 48) (.c (.bool true)) (.s 51),none⟩])) (.cond (.s 52) (.seq (.reg false false [⟨none,.store 1 (.s 4) (.c (.bool false)),none⟩]) (.ret)) (.skip))) (.reg false false [⟨some 53,.mov (.s 10),none⟩,⟨some 54,.mov (.s 12),none⟩,⟨some 55,.bin .sub (.s 53) (.s 54),none⟩,⟨some 10,.mov (.s 55),none⟩])))) (.reg false false [⟨some 56,.bin .add (.s 42) (.c (.int .i64 1)),none⟩,⟨some 42,.mov (.s 56),none⟩])))))))) (.seq (.scope (.reg false false [⟨some 57,.mov (.s 9),none⟩,⟨some 58,.len (.s 57),none⟩,⟨some 59,.fld 0 (.s 3),none⟩,⟨some 60,.load none (.s 59),none⟩,⟨some 61,.bin .neq (.s 58) (.s 60),none⟩,⟨some 62,.mov (.s 61),none⟩,⟨some 63,.mov (.s 10),some (62,false)⟩,⟨some 64,.bin .neq (.s 63) (.c (.int .i64 0)),some (62,false)⟩,⟨some 65,.pick (.s 62) (.c (.bool true)) (.s 64),none⟩])) (.cond (.s 65) (.seq (.reg false false [⟨none,.store 1 (.s 4) (.c (.bool false)),none⟩]) (.ret)) (.skip)))))) rfl T12 (fun i a=>zaw p0 p1 ((znT r7.rows).drop i)=some o12) (fun x L1=>match x with | .normal=>∃ a,o12=.go a∧L1=T12 a | .ret=>L1.length=3∧zfW (3+1) L1∧(zbO [.cell 4 none] ((dB r))) .ret ⟨66,[(2,(.ptr 0 0)),(3,(.ptr 1 0)),(4,(.ptr 2 0)),(34,(.clo 156 [] [(.fptr false (zaa.c false r7))]))],L1 ++ [.lost]⟩| _=>False) () ?_ (qay _) ?_ ?_ ?_ (fun d L1 hx=>hx.elim) ?_ ?_ ?_ ?_ ?_ ?_
 ·intro a; rw[hT12]; rfl
 ·exact⟨(qaf rfl),(qaf rfl),(qaf rfl),⟨qdc,⟨qdc,qdc⟩⟩,qdc⟩
 ·intro a; rw[hT12]; exact⟨⟨qdc,qdc,qdc,qdc,qdc,qdc⟩,⟨qdc,qdc,qdc,qdc⟩,⟨qdc,qdc⟩,qdc⟩
 ·intro x L1 hx;cases x with
  | normal=>obtain⟨a,_,rfl⟩:=hx; exact⟨by rw[hT12]; rfl,by rw[hT12]; exact⟨⟨qdc,qdc,qdc,qdc,qdc,qdc⟩,⟨qdc,qdc,qdc,qdc⟩,⟨qdc,qdc⟩,qdc⟩⟩
  | ret=>exact⟨hx.1,hx.2.1⟩
  | exit id=>exact hx.elim
  | panic d=>exact hx.elim
 ·exact j12
 ·rintro i ⟨⟩ y11 args G lpF hy hi12 ⟨rfl,rfl⟩ hkin;rw[zod hy]at hi12;simp only[zaw]at hi12;refine⟨_,_,rfl,rfl,?_⟩;rw[congrFun hT12 ()];refine zab ?_;try simp only[rnA,Nat.reduceEqDiff,Nat.reduceLT,Nat.reduceAdd,zad,zam]
  obtain⟨o16,j16,hi12⟩:=bind_some hi12;obtain⟨T16,hT16⟩:=mkT fun a:Int=>⟨66,[(3,(.ptr 1 0)),(4,(.ptr 2 0)),(9,(fzE false (eI .i64) y11.2)),(10,(dI a))],[.cells [(dI p0.net.grain),(fzE false zaa p0.net.nodes),(fzE false (eI .i64) p0.cards),(fzE false (eI .u64) p0.sets),(fzE false (eI .i64) p0.order)],.cells [(dI p1.card),(fzE false (eI .i64) p1.parents),(fzE false (eL (eI .i64)) p1.rows)],.cells [(dB false)],lpF]⟩
  refine EvL.jn T16 (fun a=>o16=.go a) ?_ ?_
  ·refine zab ?_;simp only[rnA];obtain⟨T19,hT19⟩:=mkT fun a:(Int×Int)=>⟨66,[(3,(.ptr 1 0)),(4,(.ptr 2 0)),(9,(fzE false (eI .i64) y11.2)),(10,(dI a.1)),(40,(fzE false (eI .i64) y11.2)),(41,(dI (y11.2.length:Int))),(42,(dI a.2))],[.cells [(dI p0.net.grain),(fzE false zaa p0.net.nodes),(fzE false (eI .i64) p0.cards),(fzE false (eI .u64) p0.sets),(fzE false (eI .i64) p0.order)],.cells [(dI p1.card),(fzE false (eI .i64) p1.parents),(fzE false (eL (eI .i64)) p1.rows)],.cells [(dB false)],lpF]⟩
   refine EvL.rounds (α:=(Int×Int)) T19 (fun n a=>zaz y11 n a.1 a.2=some o16) ((y11.2.length:Int) - 0+2:Int).toNat (p0.net.grain,0) (by rw[hT19]; exact zbx.mK (k0:=4) [.k,.k,.k,.k] rfl rfl (msq (msq (msq (msq (msq (msq (msq trivial))))))) ⟨MB.cs ⟨qdc,qdc,qdc,qdc,qdc,qdc⟩,⟨MB.cs ⟨qdc,qdc,qdc,qdc⟩,⟨MB.cs ⟨qdc,qdc⟩,⟨.same (hkin _ (by decide)),qdc⟩⟩⟩⟩) j16 (fun _ h=>nomatch (show(none:Option (Out Int Bool))=some o16 from h)) ?_;rintro n ⟨v10,v42⟩ j16;simp only[zaz]at j16;rw[congrFun hT19 (v10,v42)];refine zab ?_;try simp only[rnA,Nat.reduceEqDiff,Nat.reduceLT]
   cases c12:(decide (v42<(y11.2.length:Int)))
   ·rw[c12,cond_false]at j16;try simp only[rnA,Nat.reduceEqDiff]
    replace j16:=qac j16; subst j16;exact⟨_,rfl,by rw[hT16]; exact zbx.mK (k0:=4) [.k,.k,.k,.k] rfl rfl (msq (msq (msq (msq trivial)))) ⟨MB.cs ⟨qdc,qdc,qdc,qdc,qdc,qdc⟩,⟨MB.cs ⟨qdc,qdc,qdc,qdc⟩,⟨MB.cs ⟨qdc,qdc⟩,⟨.same (hkin _ (by decide)),qdc⟩⟩⟩⟩⟩
   rw[c12,cond_true]at j16;obtain⟨x13,g14,j16⟩:=bind_some j16;try simp only[rnA,Nat.reduceEqDiff,Nat.reduceLT,zak (n:=1) (e:=(eI .i64)) rfl g14]
   obtain⟨o20,j20,j16⟩:=bind_some j16;obtain⟨T20,hT20⟩:=mkT fun a:Bool=>⟨66,[(3,(.ptr 1 0)),(4,(.ptr 2 0)),(9,(fzE false (eI .i64) y11.2)),(10,(dI v10)),(12,(dI x13)),(40,(fzE false (eI .i64) y11.2)),(41,(dI (y11.2.length:Int))),(42,(dI v42)),(52,(dB a))],[.cells [(dI p0.net.grain),(fzE false zaa p0.net.nodes),(fzE false (eI .i64) p0.cards),(fzE false (eI .u64) p0.sets),(fzE false (eI .i64) p0.order)],.cells [(dI p1.card),(fzE false (eI .i64) p1.parents),(fzE false (eL (eI .i64)) p1.rows)],.cells [(dB false)],lpF]⟩
   refine EvL.jn T20 (fun a=>a=o20) ?_ ?_
   ·refine zab ?_;try simp only[rnA,Nat.reduceEqDiff,Nat.reduceLT]
    cases c15:(decide (x13<0))
    ·rw[c15,cond_false]at j20;try simp only[rnA,Nat.reduceEqDiff,Nat.reduceLT]
     replace j20:=qac j20; subst j20;exact⟨_,rfl,by rw[hT20]; exact zbx.mK (k0:=4) [.k,.k,.k,.k] rfl rfl (msq (msq (msq (msq (msq (msq (msq (msq (msq trivial))))))))) ⟨MB.cs ⟨qdc,qdc,qdc,qdc,qdc,qdc⟩,⟨MB.cs ⟨qdc,qdc,qdc,qdc⟩,⟨MB.cs ⟨qdc,qdc⟩,⟨.same (hkin _ (by decide)),qdc⟩⟩⟩⟩⟩
    rw[c15,cond_true]at j20;try simp only[rnA,Nat.reduceEqDiff,Nat.reduceLT]
    replace j20:=qac j20; subst j20;exact⟨_,rfl,by rw[hT20]; exact zbx.mK (k0:=4) [.k,.k,.k,.k] rfl rfl (msq (msq (msq (msq (msq (msq (msq (msq (msq trivial))))))))) ⟨MB.cs ⟨qdc,qdc,qdc,qdc,qdc,qdc⟩,⟨MB.cs ⟨qdc,qdc,qdc,qdc⟩,⟨MB.cs ⟨qdc,qdc⟩,⟨.same (hkin _ (by decide)),qdc⟩⟩⟩⟩⟩
   rintro v52 rfl;rw[congrFun hT20 v52];refine zab ?_;try simp only[rnA,Nat.reduceEqDiff]
   cases c16:v52
   ·rw[c16,cond_false]at j16;try simp only[rnA,Nat.reduceEqDiff,Nat.reduceLT]
    exact⟨((w64 (v10 - x13)),(w64 (v42+1))),j16,by rw[hT19]; exact zbx.mK (k0:=4) [.k,.k,.k,.k] rfl rfl (msq (msq (msq (msq (msq (msq (msq trivial))))))) ⟨MB.cs ⟨qdc,qdc,qdc,qdc,qdc,qdc⟩,⟨MB.cs ⟨qdc,qdc,qdc,qdc⟩,⟨MB.cs ⟨qdc,qdc⟩,⟨.same (hkin _ (by decide)),qdc⟩⟩⟩⟩⟩
   rw[c16,cond_true]at j16;try simp only[rnA,Nat.reduceEqDiff,Nat.reduceLeDiff]
   replace j16:=qac j16; subst j16;dsimp only at hi12;replace hi12:=qac hi12; subst hi12;dsimp only at h;replace h:=qac h; subst h;exact⟨[.cells [(dI p0.net.grain),(fzE false zaa p0.net.nodes),(fzE false (eI .i64) p0.cards),(fzE false (eI .u64) p0.sets),(fzE false (eI .i64) p0.order)],.cells [(dI p1.card),(fzE false (eI .i64) p1.parents),(fzE false (eL (eI .i64)) p1.rows)],.cells [(dB false)]],rfl,zbx.mK [.k,.k,.k,.k] rfl rfl qdc ⟨MB.cs ⟨qdc,qdc,qdc,qdc,qdc,qdc⟩,⟨MB.cs ⟨qdc,qdc,qdc,qdc⟩,⟨MB.cs ⟨qdc,qdc⟩,⟨.same (hkin _ (by decide)),qdc⟩⟩⟩⟩,rfl,⟨⟨qdc,qdc,qdc,qdc,qdc,qdc⟩,⟨qdc,qdc,qdc,qdc⟩,⟨qdc,qdc⟩,qdc⟩,zbO.ret rfl (.lit _)⟩
  rintro v10 rfl;dsimp only at hi12;rw[congrFun hT16 v10];refine zab ?_;try simp only[rnA]
  obtain⟨o21,j21,hi12⟩:=bind_some hi12;obtain⟨T21,hT21⟩:=mkT fun a:Bool=>⟨66,[(4,(.ptr 2 0)),(65,(dB a))],[.cells [(dI p0.net.grain),(fzE false zaa p0.net.nodes),(fzE false (eI .i64) p0.cards),(fzE false (eI .u64) p0.sets),(fzE false (eI .i64) p0.order)],.cells [(dI p1.card),(fzE false (eI .i64) p1.parents),(fzE false (eL (eI .i64)) p1.rows)],.cells [(dB false)],lpF]⟩
  refine EvL.jn T21 (fun a=>a=o21) ?_ ?_
  ·refine zab ?_;try simp only[rnA,Nat.reduceEqDiff,Nat.reduceLT,zam]
   cases c17:((y11.2.length:Int)== p1.card)
   ·rw[c17,cond_false]at j21;try simp only[rnA,Nat.reduceEqDiff,Nat.reduceLT]
    replace j21:=qac j21; subst j21;exact⟨_,rfl,by rw[hT21]; exact zbx.mK (k0:=4) [.k,.k,.k,.k] rfl rfl (msq (msq trivial)) ⟨MB.cs ⟨qdc,qdc,qdc,qdc,qdc,qdc⟩,⟨MB.cs ⟨qdc,qdc,qdc,qdc⟩,⟨MB.cs ⟨qdc,qdc⟩,⟨.same (hkin _ (by decide)),qdc⟩⟩⟩⟩⟩
   rw[c17,cond_true]at j21;try simp only[rnA,Nat.reduceEqDiff,Nat.reduceLT]
   replace j21:=qac j21; subst j21;exact⟨_,rfl,by rw[hT21]; exact zbx.mK (k0:=4) [.k,.k,.k,.k] rfl rfl (msq (msq trivial)) ⟨MB.cs ⟨qdc,qdc,qdc,qdc,qdc,qdc⟩,⟨MB.cs ⟨qdc,qdc,qdc,qdc⟩,⟨MB.cs ⟨qdc,qdc⟩,⟨.same (hkin _ (by decide)),qdc⟩⟩⟩⟩⟩
  rintro v65 rfl;rw[congrFun hT21 v65];refine zab ?_;try simp only[rnA,Nat.reduceEqDiff]
  cases c18:v65
  ·rw[c18,cond_false]at hi12;try simp only[rnA]
   exact⟨T12 (),by rw[hT12]; rfl,by rw[hT12]; exact zbx.mK [.k,.k,.k,.k] rfl rfl qdc ⟨MB.cs ⟨qdc,qdc,qdc,qdc,qdc,qdc⟩,⟨MB.cs ⟨qdc,qdc,qdc,qdc⟩,⟨MB.cs ⟨qdc,qdc⟩,⟨.same (hkin _ (by decide)),qdc⟩⟩⟩⟩,(),hi12,rfl⟩
  rw[c18,cond_true]at hi12;try simp only[rnA,Nat.reduceEqDiff,Nat.reduceLeDiff]
  replace hi12:=qac hi12; subst hi12;dsimp only at h;replace h:=qac h; subst h;exact⟨[.cells [(dI p0.net.grain),(fzE false zaa p0.net.nodes),(fzE false (eI .i64) p0.cards),(fzE false (eI .u64) p0.sets),(fzE false (eI .i64) p0.order)],.cells [(dI p1.card),(fzE false (eI .i64) p1.parents),(fzE false (eL (eI .i64)) p1.rows)],.cells [(dB false)]],rfl,zbx.mK [.k,.k,.k,.k] rfl rfl qdc ⟨MB.cs ⟨qdc,qdc,qdc,qdc,qdc,qdc⟩,⟨MB.cs ⟨qdc,qdc,qdc,qdc⟩,⟨MB.cs ⟨qdc,qdc⟩,⟨.same (hkin _ (by decide)),qdc⟩⟩⟩⟩,rfl,⟨⟨qdc,qdc,qdc,qdc,qdc,qdc⟩,⟨qdc,qdc,qdc,qdc⟩,⟨qdc,qdc⟩,qdc⟩,zbO.ret rfl (.lit _)⟩
 ·rintro⟨⟩ hi12;rw[qcL]at hi12;simp only[zaw]at hi12;exact⟨(),(qac hi12).symm,rfl⟩
 ·rintro _ ⟨⟨⟩,rfl,rfl⟩;dsimp only at h;rw[congrFun hT12 ()];refine zab ?_;try simp only[rnA,Nat.reduceEqDiff,Nat.reduceLeDiff,zad]
  replace h:=qac h; subst h;exact zbO.ret rfl (.lit _)
 ·intro id L1 hx; exact hx.elim
 intro L1 hx; exact hx.2.2
def zbe(p0:(List Int))(v5:Int)(C1:Nat):Nat→Int→(List Int)→Option (Out3 Unit (Int×(List Int)) ((List Int)×Bool))
 | 0,_,_=>none
 | n+1,v18,l0'=>(
bif (decide (v18<(p0.length:Int)))then(
(zaP p0 v18).bind fun x5=>
(((zla .u64 v5 v18).bind fun q7=>
bif ((zo1 .u64 q7 1)== 0)then(
some (((zyn .u64 x5 v5)== 0),l0'))
else(
some (false,l0')):Option ((Bool×(List Int))))).bind fun o=>match o with
|(v33,l0'')=>(
bif v33 then(
(zmz C1 l0'' [v18]).bind fun y11=>
(zso .u64 1 v18).bind fun q13=>
some (.brk ((orI .u64 v5 q13),y11)))
else(
zbe p0 v5 C1 n (w64 (v18+1)) l0'')))
else(
some (.go ())))
def zbp(p0:(List Int))(C1:Nat):Nat→Int→(List Int)→Option (Out (List Int) ((List Int)×Bool))
 | 0,_,_=>none
 | n+1,v5,l0=>(
bif (decide (((l0.length:Nat):Int)<(p0.length:Int)))then(
((zbe p0 v5 C1 ((p0.length:Int) - 0+2:Int).toNat 0 l0:Option (Out3 Unit (Int×(List Int)) ((List Int)×Bool)))).bind fun o=>match o with
| .go _=>(
some (.ret ([],false)))
| .brk (v5',l0')=>(
zbp p0 C1 n v5' l0')
| .ret r=>some (.ret r))
else(
some (.go l0)))
def zb0(p0:(List Int)):Option ((List Int)×Bool):=
(ztW 8 (p0.length:Int)).bind fun C1=>
((zbp p0 C1 ((p0.length:Int) - ((([]:List Int).length:Nat):Int)+2:Int).toNat 0 ([]:List Int):Option (Out (List Int) ((List Int)×Bool)))).bind fun o=>match o with
| .go l0=>(
some (l0,true))
| .ret r=>some r
theorem zjT{p0:(List Int)}{r:((List Int)×Bool)}(h:zb0 p0=some r):Lx.Fn mC 124 [(fzE false (eI .u64) p0)] (.tup [(fzE true (eI .i64) r.1),(dB r.2)]):=by
 refine fnO (by conv=>lhs; cbv) ?_;unfold zb0 at h;refine zab ?_;try simp only[rnA,Nat.reduceLT]
 refine EvL.scope (zab ?_);obtain⟨C1,g2,h⟩:=bind_some h;try simp only[rnA,Nat.reduceEqDiff,Nat.reduceLT,reduceCtorEq,zam,(zjV g2).1.1,(zjV g2).1.2,(zjV g2).2,qce,qcV,(show List.replicate C1 [(dI 0)]=(room [] C1 0).map ((eI .i64).c true)from ztI g2 0 ((eI .i64).c true))]
 obtain⟨o84,j84,h⟩:=bind_some h;obtain⟨T84,hT84⟩:=mkT fun a:(List Int)=>⟨44,[(4,(.sl 0 0 1 a.length (some C1) C1))],[.els 1 ((room a C1 0).map ((eI .i64).c true))]⟩
 refine EvL.jn T84 (fun a=>o84=.go a∧a.length≤C1) ?_ ?_
 ·refine zab ?_;simp only[rnA];obtain⟨T103,hT103⟩:=mkT fun a:(Int×(List Int))=>⟨44,[(0,(fzE false (eI .u64) p0)),(4,(.sl 0 0 1 a.2.length (some C1) C1)),(5,(dU a.1))],[.els 1 ((room a.2 C1 0).map ((eI .i64).c true))]⟩
  refine EvL.rounds (α:=(Int×(List Int))) T103 (fun n a=>zbp p0 C1 n a.1 a.2=some o84∧a.2.length≤C1) ((p0.length:Int) - ((([]:List Int).length:Nat):Int)+2:Int).toNat (0,([]:List Int)) (by rw[hT103]; exact wm0 [.k] ⟨MB.es (eI .i64) true (room ([]:List Int) C1 0),qdc⟩) ⟨j84,(qay _)⟩ (fun _ h=>nomatch (show(none:Option (Out (List Int) ((List Int)×Bool)))=some o84 from h.1)) ?_;rintro n ⟨v5,l0⟩ ⟨j84,el0⟩;simp only[zbp]at j84;rw[congrFun hT103 (v5,l0)];refine zab ?_;try simp only[rnA,Nat.reduceEqDiff,Nat.reduceLT,reduceCtorEq,zhj el0 0,zam]
  cases c3:(decide (((l0.length:Nat):Int)<(p0.length:Int)))
  ·rw[c3,cond_false]at j84;try simp only[rnA]
   replace j84:=qac j84; subst j84;exact⟨_,⟨rfl,el0⟩,by rw[hT84]; exact wm0 [.k] ⟨MB.es (eI .i64) true (room l0 C1 0),qdc⟩⟩
  rw[c3,cond_true]at j84;try simp only[rnA,Nat.reduceEqDiff,Nat.reduceLT,reduceCtorEq,zam]
  obtain⟨o108,j108,j84⟩:=bind_some j84;obtain⟨T108,hT108⟩:=mkT fun a:Unit=>⟨44,[],[]⟩
  obtain⟨TB108,hTB108⟩:∃ T:(Int×(List Int))→LSt,T=(fun a=>⟨44,[(0,(fzE false (eI .u64) p0)),(4,(.sl 0 0 1 a.2.length (some C1) C1)),(5,(dU a.1))],[.els 1 ((room a.2 C1 0).map ((eI .i64).c true))]⟩):=⟨_,rfl⟩;refine EvL.jn2 (id:=1) T108 (fun a=>o108=.go a) TB108 (fun a=>o108=.brk a∧a.2.length≤C1) (fun id S hx=>by first | (rcases hx with⟨hx | hx,_⟩<;> cases hx)| exact hx.elim) ?_ ?_ ?_
  ·refine zab ?_;simp only[rnA];obtain⟨T111,hT111⟩:=mkT fun a:(Int×(List Int))=>⟨44,[(0,(fzE false (eI .u64) p0)),(4,(.sl 0 0 1 a.2.length (some C1) C1)),(5,(dU v5)),(16,(fzE false (eI .u64) p0)),(17,(dI (p0.length:Int))),(18,(dI a.1))],[.els 1 ((room a.2 C1 0).map ((eI .i64).c true))]⟩
   refine EvL.rounds (α:=(Int×(List Int))) T111 (fun n a=>zbe p0 v5 C1 n a.1 a.2=some o108∧a.2.length≤C1) ((p0.length:Int) - 0+2:Int).toNat (0,l0) (by rw[hT111]; exact wm0 [.k] ⟨MB.es (eI .i64) true (room l0 C1 0),qdc⟩) ⟨j108,el0⟩ (fun _ h=>nomatch (show(none:Option (Out3 Unit (Int×(List Int)) ((List Int)×Bool)))=some o108 from h.1)) ?_;rintro n ⟨v18,l0'⟩ ⟨j108,el0'⟩;simp only[zbe]at j108;rw[congrFun hT111 (v18,l0')];refine zab ?_;try simp only[rnA,Nat.reduceEqDiff,Nat.reduceLT,reduceCtorEq]
   cases c4:(decide (v18<(p0.length:Int)))
   ·rw[c4,cond_false]at j108;try simp only[rnA,Nat.reduceEqDiff]
    replace j108:=qac j108; subst j108;exact lfj hT108 rfl (wm0 [] (by exact trivial))
   rw[c4,cond_true]at j108;obtain⟨x5,g6,j108⟩:=bind_some j108;try simp only[rnA,Nat.reduceEqDiff,Nat.reduceLT,reduceCtorEq,zak (n:=1) (e:=(eI .u64)) rfl g6]
   obtain⟨o112,j112,j108⟩:=bind_some j108;obtain⟨T112,hT112⟩:=mkT fun a:(Bool×(List Int))=>⟨44,[(0,(fzE false (eI .u64) p0)),(4,(.sl 0 0 1 a.2.length (some C1) C1)),(5,(dU v5)),(6,(dI v18)),(16,(fzE false (eI .u64) p0)),(17,(dI (p0.length:Int))),(18,(dI v18)),(33,(dB a.1))],[.els 1 ((room a.2 C1 0).map ((eI .i64).c true))]⟩
   refine EvL.jn T112 (fun a=>a=o112∧a.2.length≤C1) ?_ ?_
   ·refine zab ?_;obtain⟨q7,g8,j112⟩:=bind_some j112;try simp only[rnA,Nat.reduceEqDiff,Nat.reduceLT,reduceCtorEq,(zdq g8).1,(zdq g8).2]
    cases c9:((zo1 .u64 q7 1)== 0)
    ·rw[c9,cond_false]at j112;try simp only[rnA,Nat.reduceEqDiff,Nat.reduceLT,reduceCtorEq]
     replace j112:=qac j112; subst j112;exact⟨_,⟨rfl,el0'⟩,by rw[hT112]; exact wm0 [.k] ⟨MB.es (eI .i64) true (room l0' C1 0),qdc⟩⟩
    rw[c9,cond_true]at j112;try simp only[rnA,Nat.reduceEqDiff,Nat.reduceLT,reduceCtorEq]
    replace j112:=qac j112; subst j112;exact⟨_,⟨rfl,el0'⟩,by rw[hT112]; exact wm0 [.k] ⟨MB.es (eI .i64) true (room l0' C1 0),qdc⟩⟩
   rintro⟨v33,l0''⟩ ⟨rfl,el0''⟩;dsimp only at j108;rw[congrFun hT112 (v33,l0'')];refine zab ?_;try simp only[rnA,Nat.reduceEqDiff,reduceCtorEq]
   cases c10:v33
   ·rw[c10,cond_false]at j108;try simp only[rnA,Nat.reduceEqDiff,Nat.reduceLT,reduceCtorEq]
    exact⟨((w64 (v18+1)),l0''),⟨j108,el0''⟩,by rw[hT111]; exact wm0 [.k] ⟨MB.es (eI .i64) true (room l0'' C1 0),qdc⟩⟩
   rw[c10,cond_true]at j108;obtain⟨y11,g12,j108⟩:=bind_some j108;obtain⟨q13,g14,j108⟩:=bind_some j108;try simp only[rnA,Nat.reduceEqDiff,Nat.reduceLT,Nat.reduceAdd,Nat.reduceLeDiff,reduceCtorEq,zhj el0'' 0,(show l0''.length+1=y11.length from zlJ g12),zok g12,(show((room l0'' C1 0).map ((eI .i64).c true)).take l0''.length ++ [[(dI v18)]]++ ((room l0'' C1 0).map ((eI .i64).c true)).drop y11.length=(room y11 C1 0).map ((eI .i64).c true)from zrj g12 0 ((eI .i64).c true)),(zd8 g14).1,(zd8 g14).2]
   replace j108:=qac j108; subst j108;exact⟨_,⟨rfl,(zok g12)⟩,by rw[hTB108]; exact wm0 [.k] ⟨MB.es (eI .i64) true (room y11 C1 0),qdc⟩⟩
  ·rintro⟨⟩ rfl;dsimp only at j84;rw[congrFun hT108 ()];refine zab ?_;try simp only[rnA,Nat.reduceLT]
   replace j84:=qac j84; subst j84;dsimp only at h;replace h:=qac h; subst h;exact zbO.ret rfl (Snp.zos (.cons (zaV (eI .i64)) (.cons (.lit _) .nil)))
  rintro⟨v5',l0'⟩ ⟨rfl,el0'⟩;dsimp only at j84;rw[congrFun hTB108 (v5',l0')];refine zab ?_;try simp only[rnA,reduceCtorEq]
  exact⟨(v5',l0'),⟨j84,el0'⟩,by rw[hT103]; exact wm0 [.k] ⟨MB.es (eI .i64) true (room l0' C1 0),qdc⟩⟩
 rintro l0 ⟨rfl,el0⟩;dsimp only at h;rw[congrFun hT84 l0];refine zab ?_;try simp only[rnA,Nat.reduceEqDiff,Nat.reduceLT]
 replace h:=qac h; subst h;exact zbO.ret rfl (Snp.zos (.cons (ztv (e:=(eI .i64)) (t:=true) (z:=0) rfl rfl el0 (fun _=>rfl)) (.cons (.lit _) .nil)))
def zdg(p0:(List Int)):Nat→Int→(List Int)→Option (Out (List Int) ((List Int)×Bool))
 | 0,_,_=>none
 | n+1,v7,l0=>(
bif (decide (0≤v7))then(
(zaP l0 v7).bind fun x4=>
(zfP l0 v7 (w64 (x4+1))).bind fun y6=>
(zaP p0 v7).bind fun x8=>
bif (decide ((w64 (x4+1))<x8))then(
some (.ret (y6,true)))
else(
(zfP y6 v7 0).bind fun y11=>
zdg p0 n (w64 (v7 - 1)) y11))
else(
some (.go l0)))
def zet(p0:(List Int))(p1:(List Int)):Option ((List Int)×Bool):=
(zeL 8 p1).bind fun y1=>
((zdg p0 ((w64 (((p1.length:Nat):Int) - 1)) - 0+2:Int).toNat (w64 (((p1.length:Nat):Int) - 1)) p1:Option (Out (List Int) ((List Int)×Bool)))).bind fun o=>match o with
| .go l0=>(
some (l0,false))
| .ret r=>some r
theorem zmq{p0:(List Int)}{p1:(List Int)}{r:((List Int)×Bool)}(h:zet p0 p1=some r):Lx.Fn mC 131 [(fzE false (eI .i64) p0),(fzE false (eI .i64) p1)] (.tup [(fzE true (eI .i64) r.1),(dB r.2)]):=by
 refine fnO (by conv=>lhs; cbv) ?_;unfold zet at h;refine zab ?_;obtain⟨y1,g2,h⟩:=bind_some h;try simp only[rnA,Nat.reduceEqDiff,Nat.reduceLT,Nat.reduceAdd,reduceCtorEq,(show ∀ L,zg5 L 1 (fzE false (eI .i64) p1)=some (p1.map ((eI .i64).c true))from fun L=>zdE (e:=(eI .i64)) rfl _ L false),zhT g2]
 obtain⟨o1,j1,h⟩:=bind_some h;obtain⟨T1,hT1⟩:=mkT fun a:(List Int)=>⟨40,[(6,(.sl 0 0 1 a.length none a.length))],[.grow 1 (a.map ((eI .i64).c true))]⟩
 refine EvL.jn T1 (fun a=>o1=.go a) ?_ ?_
 ·refine zab ?_;simp only[rnA];obtain⟨T2,hT2⟩:=mkT fun a:(Int×(List Int))=>⟨40,[(0,(fzE false (eI .i64) p0)),(6,(.sl 0 0 1 a.2.length none a.2.length)),(7,(dI a.1))],[.grow 1 (a.2.map ((eI .i64).c true))]⟩
  refine EvL.rounds (α:=(Int×(List Int))) T2 (fun n a=>zdg p0 n a.1 a.2=some o1) ((w64 (((p1.length:Nat):Int) - 1)) - 0+2:Int).toNat ((w64 (((p1.length:Nat):Int) - 1)),p1) (by rw[hT2]; exact wm0 [.k] ⟨MB.gs (eI .i64) true p1,qdc⟩) j1 (fun _ h=>nomatch (show(none:Option (Out (List Int) ((List Int)×Bool)))=some o1 from h)) ?_;rintro n ⟨v7,l0⟩ j1;simp only[zdg]at j1;rw[congrFun hT2 (v7,l0)];refine zab ?_;try simp only[rnA,Nat.reduceEqDiff,Nat.reduceLT,reduceCtorEq]
  cases c3:(decide (0≤v7))
  ·rw[c3,cond_false]at j1;try simp only[rnA]
   replace j1:=qac j1; subst j1;exact lfj hT1 rfl (wm0 [.k] ⟨MB.gs (eI .i64) true l0,qdc⟩)
  rw[c3,cond_true]at j1;obtain⟨x4,g5,j1⟩:=bind_some j1;obtain⟨y6,g7,j1⟩:=bind_some j1;obtain⟨x8,g9,j1⟩:=bind_some j1;try simp only[rnA,Nat.reduceEqDiff,Nat.reduceLT,Nat.reduceLeDiff,reduceCtorEq,zbk g5,(show v7<((l0.length:Nat):Int)from zbD g5),zaZ g5 ((eI .i64).c true),(show(l0.map ((eI .i64).c true)).set v7.toNat [(dI (w64 (x4+1)))]=y6.map ((eI .i64).c true)from zb1 g7 ((eI .i64).c true)),zbd g7,zaZ (zf1 g7) ((eI .i64).c true),zak (n:=1) (e:=(eI .i64)) rfl g9]
  cases c10:(decide ((w64 (x4+1))<x8))
  ·rw[c10,cond_false]at j1;obtain⟨y11,g12,j1⟩:=bind_some j1;try simp only[rnA,Nat.reduceEqDiff,Nat.reduceLT,Nat.reduceLeDiff,reduceCtorEq,zbd g7,zbk (zf1 g7),(show v7<((l0.length:Nat):Int)from(zbd g7)▸ zbD (zf1 g7)),zaZ (zf1 g7) ((eI .i64).c true),(show(y6.map ((eI .i64).c true)).set v7.toNat [(dI 0)]=y11.map ((eI .i64).c true)from zb1 g12 ((eI .i64).c true))]
   exact⟨((w64 (v7 - 1)),y11),j1,by rw[hT2]; exact zbx.m0 [.k] rfl (msq (ms (by simp only[(zbd g12).trans (zbd g7)]; rfl) rfl (msq trivial))) ⟨MB.gs (eI .i64) true y11,qdc⟩⟩
  rw[c10,cond_true]at j1;try simp only[rnA,Nat.reduceEqDiff,Nat.reduceLT,reduceCtorEq]
  replace j1:=qac j1; subst j1;dsimp only at h;replace h:=qac h; subst h;exact zbO.ret rfl (Snp.zos (.cons (zal (e:=(eI .i64)) (t:=true) rfl (.inr rfl) (zbd g7).symm (zbd g7).symm (fun k h=>nomatch h) (fun _=>rfl)) (.cons (.lit _) .nil)))
 rintro l0 rfl;dsimp only at h;rw[congrFun hT1 l0];refine zab ?_;try simp only[rnA,Nat.reduceEqDiff,Nat.reduceLT]
 replace h:=qac h; subst h;exact zbO.ret rfl (Snp.zos (.cons (zal (e:=(eI .i64)) (t:=true) rfl (.inr rfl) rfl rfl (fun k h=>nomatch h) (fun _=>rfl)) (.cons (.lit _) .nil)))
def zec(p0:Int)(p1:Int):Option Bool:=
(zla .u64 p0 (IntKind.u64.wrap p1)).bind fun q1=>
some ((zo1 .u64 q1 1)== 1)
theorem zhQ{p0:Int}{p1:Int}{r:Bool}(h:zec p0 p1=some r):Lx.Fn mC 84 [(dU p0),(dI p1)] (dB r):=by
 refine fnO (by conv=>lhs; cbv) ?_;unfold zec at h;refine zab ?_;obtain⟨q1,g2,h⟩:=bind_some h;try simp only[rnA,Nat.reduceEqDiff,reduceIte,Nat.reduceLT,Nat.reduceAdd,Nat.reduceLeDiff,Nat.reduceMul,Nat.reduceSub,Int.reduceLE,Int.reduceLT,Int.reduceBEq,Nat.reduceBEq,reduceCtorEq,(zdq g2).1,(zdq g2).2]
 replace h:=qac h; subst h;exact zbO.ret rfl (.lit _)
def zdZ(p0:(List Int)):Nat→Int→Int→Option Int
 | 0,_,_=>none
 | n+1,v1',v6=>(
bif (decide (v6<(p0.length:Int)))then(
(zec v1' v6).bind fun r3=>
((bif r3 then(
(zaP p0 v6).bind fun x6=>
some (orI .u64 v1' x6))
else(
some v1'):Option Int)).bind fun v1''=>
zdZ p0 n v1'' (w64 (v6+1)))
else(
some v1'))
def zdV(p0:(List Int)):Nat→Int→Int→Option Int
 | 0,_,_=>none
 | n+1,v1,v5=>(
bif (decide (v5<(p0.length:Int)))then(
((zdZ p0 ((p0.length:Int) - 0+2:Int).toNat v1 0:Option Int)).bind fun v1'=>
zdV p0 n v1' (w64 (v5+1)))
else(
some v1))
def zgq(p0:(List Int))(p1:Int):Option Int:=
((zdV p0 ((p0.length:Int) - 0+2:Int).toNat p1 0:Option Int)).bind fun v1=>
some v1
theorem zsd{p0:(List Int)}{p1:Int}{r:Int}(h:zgq p0 p1=some r):Lx.Fn mC 128 [(fzE false (eI .u64) p0),(dU p1)] (dU r):=by
 refine fnO (by conv=>lhs; cbv) ?_;unfold zgq at h;refine zab ?_;try simp only[rnA,Nat.reduceLT,Nat.reduceAdd]
 obtain⟨o25,j25,h⟩:=bind_some h;obtain⟨T25,hT25⟩:=mkT fun a:Int=>⟨29,[(1,(dU a))],[]⟩
 refine EvL.jn T25 (fun a=>a=o25) ?_ ?_
 ·refine zab ?_;simp only[rnA];obtain⟨T42,hT42⟩:=mkT fun a:(Int×Int)=>⟨29,[(0,(fzE false (eI .u64) p0)),(1,(dU a.1)),(5,(dI a.2))],[]⟩
  refine EvL.rounds (α:=(Int×Int)) T42 (fun n a=>zdV p0 n a.1 a.2=some o25) ((p0.length:Int) - 0+2:Int).toNat (p1,0) (by rw[hT42]; exact wm0 [] (by exact trivial)) j25 (fun _ h=>nomatch (show(none:Option Int)=some o25 from h)) ?_;rintro n ⟨v1,v5⟩ j25;simp only[zdV]at j25;rw[congrFun hT42 (v1,v5)];refine zab ?_;try simp only[rnA,Nat.reduceEqDiff,Nat.reduceLT,reduceCtorEq,zam]
  cases c1:(decide (v5<(p0.length:Int)))
  ·rw[c1,cond_false]at j25;try simp only[rnA]
   replace j25:=qac j25; subst j25;exact lfj hT25 rfl (wm0 [] (by exact trivial))
  rw[c1,cond_true]at j25;try simp only[rnA,Nat.reduceLT]
  obtain⟨o46,j46,j25⟩:=bind_some j25;obtain⟨T46,hT46⟩:=mkT fun a:Int=>⟨29,[(0,(fzE false (eI .u64) p0)),(1,(dU a)),(5,(dI v5))],[]⟩
  refine EvL.jn T46 (fun a=>a=o46) ?_ ?_
  ·refine zab ?_;simp only[rnA];obtain⟨T49,hT49⟩:=mkT fun a:(Int×Int)=>⟨29,[(0,(fzE false (eI .u64) p0)),(1,(dU a.1)),(5,(dI v5)),(6,(dI a.2))],[]⟩
   refine EvL.rounds (α:=(Int×Int)) T49 (fun n a=>zdZ p0 n a.1 a.2=some o46) ((p0.length:Int) - 0+2:Int).toNat (v1,0) (by rw[hT49]; exact wm0 [] (by exact trivial)) j46 (fun _ h=>nomatch (show(none:Option Int)=some o46 from h)) ?_;rintro n ⟨v1',v6⟩ j46;simp only[zdZ]at j46;rw[congrFun hT49 (v1',v6)];refine zab ?_;try simp only[rnA,Nat.reduceEqDiff,Nat.reduceLT,reduceCtorEq,zam]
   cases c2:(decide (v6<(p0.length:Int)))
   ·rw[c2,cond_false]at j46;try simp only[rnA,Nat.reduceEqDiff,Nat.reduceLT,reduceCtorEq]
    replace j46:=qac j46; subst j46;exact lfj hT46 rfl (wm0 [] (by exact trivial))
   rw[c2,cond_true]at j46;obtain⟨r3,g4,j46⟩:=bind_some j46;try simp only[rnA,Nat.reduceEqDiff,Nat.reduceLT,reduceCtorEq]
   refine EvL.fn (zhQ g4) rfl rfl (.cons (.lit _) (.cons (.lit _) .nil)) ?_;try simp only[rnA,Nat.reduceLT]
   obtain⟨o50,j50,j46⟩:=bind_some j46;obtain⟨T50,hT50⟩:=mkT fun a:Int=>⟨29,[(0,(fzE false (eI .u64) p0)),(1,(dU a)),(5,(dI v5)),(6,(dI v6))],[]⟩
   refine EvL.jn T50 (fun a=>a=o50) ?_ ?_
   ·refine zab ?_;try simp only[rnA,Nat.reduceEqDiff,reduceCtorEq]
    cases c5:r3
    ·rw[c5,cond_false]at j50;try simp only[rnA]
     replace j50:=qac j50; subst j50;exact lfj hT50 rfl (wm0 [] (by exact trivial))
    rw[c5,cond_true]at j50;obtain⟨x6,g7,j50⟩:=bind_some j50;try simp only[rnA,Nat.reduceEqDiff,Nat.reduceLT,reduceCtorEq,zak (n:=1) (e:=(eI .u64)) rfl g7]
    replace j50:=qac j50; subst j50;exact lfj hT50 rfl (wm0 [] (by exact trivial))
   rintro v1'' rfl;rw[congrFun hT50 v1''];refine zab ?_;try simp only[rnA,Nat.reduceEqDiff,Nat.reduceLT,reduceCtorEq]
   exact⟨(v1'',(w64 (v6+1))),j46,by rw[hT49]; exact wm0 [] (by exact trivial)⟩
  rintro v1' rfl;rw[congrFun hT46 v1'];refine zab ?_;try simp only[rnA,Nat.reduceEqDiff,Nat.reduceLT,reduceCtorEq]
  exact⟨(v1',(w64 (v5+1))),j25,by rw[hT42]; exact wm0 [] (by exact trivial)⟩
 rintro v1 rfl;rw[congrFun hT25 v1];refine zab ?_;try simp only[rnA,Nat.reduceEqDiff,Nat.reduceLT]
 replace h:=qac h; subst h;exact zbO.ret rfl (.lit _)
def zdK(y8:(List (List Int))):Nat→Int→(List (List Int))→Option (List (List Int))
 | 0,_,_=>none
 | n+1,v42,l6=>(
bif (decide (v42<(y8.length:Int)))then(
(zaP y8 v42).bind fun x11=>
(zdu x11 0 (zcL (x11.length:Int) 6)).bind fun y13=>
(zcW 24 l6 [y13]).bind fun y15=>
zdK y8 n (w64 (v42+1)) y15)
else(
some l6))
def zdN(y1:(List S_api_Node)):Nat→Int→(List S_api_Node)→Option (List S_api_Node)
 | 0,_,_=>none
 | n+1,v20,l3=>(
bif (decide (v20<(y1.length:Int)))then(
(zaP y1 v20).bind fun x4=>
(zdu x4.parents 0 (zcL (x4.parents.length:Int) 8)).bind fun y6=>
(zdu x4.rows 0 (zcL (x4.rows.length:Int) 20)).bind fun y8=>
((zdK y8 ((y8.length:Int) - 0+2:Int).toNat 0 []:Option (List (List Int)))).bind fun l6=>
(zcW 56 l3 [(S_api_Node.mk x4.card y6 l6)]).bind fun y17=>
zdN y1 n (w64 (v20+1)) y17)
else(
some l3))
def zeV(p0:S_api_Net):Option S_api_Net:=
(zdu p0.nodes 0 (zcL (p0.nodes.length:Int) 9)).bind fun y1=>
((zdN y1 ((y1.length:Int) - 0+2:Int).toNat 0 []:Option (List S_api_Node))).bind fun l3=>
some (S_api_Net.mk p0.grain l3)
def zlA:C:=
 .seq (rg [oW 1 0,
 ⟨some 2,.alloc [(.int .i64 0),(.slice none 0 0)],none⟩])
 (.seq (rg [oF 9 0 1,
 oL 10 9,
 ⟨some 11,.build [(.int .i64 0),(.slice none 0 0)] [(0,1,(.s 10))],none⟩,
 ⟨some 3,.alloc [(.int .i64 0),(.slice none 0 0)],none⟩,
 oS 2 3 11])
 (.seq (.seq (rg [oF 12 1 1,
 oL 13 12,
 oF 14 1 1,
 oL 15 14,
 oE 16 15,
 ⟨some 17,.mm false [(.s 16),(.c (.int .i64 9))],none⟩,
 ⟨some 18,.slc 3 (.s 13) none (some (.s 17)) none,none⟩,
 oE 19 18,
 oK 20 0])
 (.scope (.block 0 (.loop (.seq (rg [oB 21 .lss 20 19])
 (.seq (.cond (.s 21) (.skip)
 (.exit 0))
 (.seq (.block 1 (.seq (rg [oI 22 3 18 20,
 oN 23 3 22,
 ⟨some 5,.alloc [(.int .i64 0),(.slice none 0 0),(.slice none 0 0)],none⟩,
 oS 3 5 23])
 (.seq (.reg true false [oF 24 0 5,
 oL 25 24,
 oF 26 1 5,
 oL 27 26,
 oF 28 1 5,
 oL 29 28,
 oE 30 29,
 ⟨some 31,.mm false [(.s 30),(.c (.int .i64 8))],none⟩,
 ⟨some 32,.slc 1 (.s 27) none (some (.s 31)) none,none⟩,
 ⟨some 33,.build [(.int .i64 0),(.slice none 0 0),(.slice none 0 0)] [(0,1,(.s 25)),(1,1,(.s 32))],none⟩,
 ⟨some 6,.alloc [(.int .i64 0),(.slice none 0 0),(.slice none 0 0)],none⟩,
 oS 3 6 33])
 (.seq (.seq (rg [oF 34 2 5,
 oL 35 34,
 oF 36 2 5,
 oL 37 36,
 oE 38 37,
 ⟨some 39,.mm false [(.s 38),(.c (.int .i64 20))],none⟩,
 ⟨some 40,.slc 1 (.s 35) none (some (.s 39)) none,none⟩,
 oE 41 40,
 oK 42 0])
 (.scope (.block 2 (.loop (.seq (rg [oB 43 .lss 42 41])
 (.seq (.cond (.s 43) (.skip)
 (.exit 2))
 (.seq (.block 3 (.seq (rg [oI 44 1 40 42,
 oL 45 44,
 oM 8 45])
 (.reg true false [oF 46 2 6,
 oL 47 46,
 oM 48 8,
 oM 49 8,
 oE 50 49,
 ⟨some 51,.mm false [(.s 50),(.c (.int .i64 6))],none⟩,
 ⟨some 52,.slc 1 (.s 48) none (some (.s 51)) none,none⟩,
 ⟨some 53,.bsl 1 1 [(.slice none 0 0)] [(0,(.s 52))],none⟩,
 oT 54 1 24 47 53,
 oF 55 2 6,
 oS 1 55 54])))
 (rg [oD 56 .add 42 1,
 oM 42 56]))))))))
 (rg [oF 57 1 3,
 oL 58 57,
 oN 59 3 6,
 ⟨some 60,.bsl 3 1 [(.int .i64 0),(.slice none 0 0),(.slice none 0 0)] [(0,(.s 59))],none⟩,
 oT 61 3 56 58 60,
 oF 62 1 3,
 oS 1 62 61])))))
 (rg [oD 63 .add 20 1,
 oM 20 63]))))))))
 (.seq (rg [oN 64 2 3,
 oS 2 2 64])
 (.ret))))
theorem zmC:zkn mC 75=some (65,zlA,[.cell 2 (some 2)],false):=zb5 (by kernel_rfl)
theorem zpb{p0:S_api_Net}{r:S_api_Net}(h:zeV p0=some r):Lx.FnA mC 75 [(.agg [(dI p0.grain),(fzE false zaa p0.nodes)])] (.agg [(dI r.grain),(fzE false zaa r.nodes)]):=by
 refine FnA.of zmC (zbF rfl) (qaf rfl) ?_;unfold zeV at h;simp only[zlA,ze3];refine zab ?_;obtain⟨y1,g2,h⟩:=bind_some h;try simp only[rnA,Nat.reduceEqDiff,Nat.reduceLT,Nat.reduceAdd,Nat.reduceLeDiff,reduceCtorEq,zam,zlH (n:=3) (e:=zaa) rfl g2]
 obtain⟨o9,j9,h⟩:=bind_some h;obtain⟨T9,hT9⟩:=mkT fun a:(List S_api_Node)=>⟨65,[(2,(.ptr 1 0)),(3,(.ptr 2 0))],[.gone,.cells [(dI 0),zbs],.cells [(dI p0.grain),(.sl 3 0 3 a.length none a.length)],.grow 3 (a.map (zaa.c false))]⟩
 refine EvL.jn T9 (fun a=>a=o9) ?_ ?_
 ·refine zab ?_;simp only[rnA];obtain⟨T16,hT16⟩:=mkT fun a:(Int×(List S_api_Node))=>⟨65,[(2,(.ptr 1 0)),(3,(.ptr 2 0)),(18,(fzE false zaa y1)),(19,(dI (y1.length:Int))),(20,(dI a.1))],[.gone,.cells [(dI 0),zbs],.cells [(dI p0.grain),(.sl 3 0 3 a.2.length none a.2.length)],.grow 3 (a.2.map (zaa.c false))]⟩
  refine EvL.zdJ (zbx.zeX (n:=3) (β:=2) (o:=1) (by decide) rfl rfl) ?_;refine EvL.rounds (α:=(Int×(List S_api_Node))) T16 (fun n a=>zdN y1 n a.1 a.2=some o9) ((y1.length:Int) - 0+2:Int).toNat (0,[]) (by rw[hT16]; exact wm0 [.d,.k,.k,.k] ⟨rfl,⟨MB.cs ⟨qdc,qdc,qdc⟩,⟨MB.cs ⟨qdc,rfl,qdc⟩,⟨MB.gs zaa false [],qdc⟩⟩⟩⟩) j9 (fun _ h=>nomatch (show(none:Option (List S_api_Node))=some o9 from h)) ?_;rintro n ⟨v20,l3⟩ j9;simp only[zdN]at j9;rw[congrFun hT16 (v20,l3)];refine zab ?_;try simp only[rnA,Nat.reduceEqDiff,Nat.reduceLT]
  cases c3:(decide (v20<(y1.length:Int)))
  ·rw[c3,cond_false]at j9;try simp only[rnA]
   replace j9:=qac j9; subst j9;exact lfj hT9 rfl (wm0 [.d,.k,.k,.k] ⟨rfl,⟨MB.cs ⟨qdc,qdc,qdc⟩,⟨MB.cs ⟨qdc,rfl,qdc⟩,⟨MB.gs zaa false l3,qdc⟩⟩⟩⟩)
  rw[c3,cond_true]at j9;obtain⟨x4,g5,j9⟩:=bind_some j9;obtain⟨y6,g7,j9⟩:=bind_some j9;obtain⟨y8,g9,j9⟩:=bind_some j9;try simp only[rnA,Nat.reduceEqDiff,Nat.reduceLT,Nat.reduceAdd,Nat.reduceLeDiff,zad,zak (n:=3) (e:=zaa) rfl g5,zam,zlH (n:=1) (e:=(eI .i64)) rfl g7,zlH (n:=1) (e:=(eL (eI .i64))) rfl g9]
  obtain⟨o17,j17,j9⟩:=bind_some j9;obtain⟨T17,hT17⟩:=mkT fun a:(List (List Int))=>⟨65,[(2,(.ptr 1 0)),(3,(.ptr 2 0)),(6,(.ptr 5 0)),(18,(fzE false zaa y1)),(19,(dI (y1.length:Int))),(20,(dI v20))],[.gone,.cells [(dI 0),zbs],.cells [(dI p0.grain),(.sl 3 0 3 l3.length none l3.length)],.grow 3 (l3.map (zaa.c false)),.gone,.cells [(dI x4.card),(fzE false (eI .i64) y6),(.sl 6 0 1 a.length none a.length)],.grow 1 (a.map ((eL (eI .i64)).c false))]⟩
  refine EvL.jn T17 (fun a=>a=o17) ?_ ?_
  ·refine zab ?_;simp only[rnA];obtain⟨T18,hT18⟩:=mkT fun a:(Int×(List (List Int)))=>⟨65,[(2,(.ptr 1 0)),(3,(.ptr 2 0)),(6,(.ptr 5 0)),(18,(fzE false zaa y1)),(19,(dI (y1.length:Int))),(20,(dI v20)),(40,(fzE false (eL (eI .i64)) y8)),(41,(dI (y8.length:Int))),(42,(dI a.1))],[.gone,.cells [(dI 0),zbs],.cells [(dI p0.grain),(.sl 3 0 3 l3.length none l3.length)],.grow 3 (l3.map (zaa.c false)),.gone,.cells [(dI x4.card),(fzE false (eI .i64) y6),(.sl 6 0 1 a.2.length none a.2.length)],.grow 1 (a.2.map ((eL (eI .i64)).c false))]⟩
   refine EvL.zdJ (zbx.zeX (n:=1) (β:=5) (o:=2) (by decide) rfl rfl) ?_;refine EvL.rounds (α:=(Int×(List (List Int)))) T18 (fun n a=>zdK y8 n a.1 a.2=some o17) ((y8.length:Int) - 0+2:Int).toNat (0,[]) (by rw[hT18]; exact wm0 [.d,.k,.k,.k,.d,.k,.k] ⟨rfl,⟨MB.cs ⟨qdc,qdc,qdc⟩,⟨MB.cs ⟨qdc,rfl,qdc⟩,⟨MB.gs zaa false l3,⟨rfl,⟨MB.cs ⟨qdc,qdc,rfl,qdc⟩,⟨MB.gs (eL (eI .i64)) false [],qdc⟩⟩⟩⟩⟩⟩⟩) j17 (fun _ h=>nomatch (show(none:Option (List (List Int)))=some o17 from h)) ?_;rintro n ⟨v42,l6⟩ j17;simp only[zdK]at j17;rw[congrFun hT18 (v42,l6)];refine zab ?_;try simp only[rnA,Nat.reduceEqDiff,Nat.reduceLT]
   cases c10:(decide (v42<(y8.length:Int)))
   ·rw[c10,cond_false]at j17;try simp only[rnA,Nat.reduceEqDiff,Nat.reduceLT,reduceCtorEq]
    replace j17:=qac j17; subst j17;exact lfj hT17 rfl (wm0 [.d,.k,.k,.k,.d,.k,.k] ⟨rfl,⟨MB.cs ⟨qdc,qdc,qdc⟩,⟨MB.cs ⟨qdc,rfl,qdc⟩,⟨MB.gs zaa false l3,⟨rfl,⟨MB.cs ⟨qdc,qdc,rfl,qdc⟩,⟨MB.gs (eL (eI .i64)) false l6,qdc⟩⟩⟩⟩⟩⟩⟩)
   rw[c10,cond_true]at j17;obtain⟨x11,g12,j17⟩:=bind_some j17;obtain⟨y13,g14,j17⟩:=bind_some j17;obtain⟨y15,g16,j17⟩:=bind_some j17;try simp only[rnA,Nat.reduceEqDiff,Nat.reduceLT,Nat.reduceAdd,Nat.reduceLeDiff,zak (n:=1) (e:=(eL (eI .i64))) rfl g12,zam,zlH (n:=1) (e:=(eI .i64)) rfl g14,zbP g16,(show l6.length+1=y15.length from zbf g16),(show l6.map ((eL (eI .i64)).c false)++ [[(fzE false (eI .i64) y13)]]=y15.map ((eL (eI .i64)).c false)from zbG g16 ((eL (eI .i64)).c false))]
   exact⟨((w64 (v42+1)),y15),j17,by rw[hT18]; exact wm0 [.d,.k,.k,.k,.d,.k,.k] ⟨rfl,⟨MB.cs ⟨qdc,qdc,qdc⟩,⟨MB.cs ⟨qdc,rfl,qdc⟩,⟨MB.gs zaa false l3,⟨rfl,⟨MB.cs ⟨qdc,qdc,rfl,qdc⟩,⟨MB.gs (eL (eI .i64)) false y15,qdc⟩⟩⟩⟩⟩⟩⟩⟩
  rintro l6 rfl;rw[congrFun hT17 l6];refine zab ?_;obtain⟨y17,g18,j9⟩:=bind_some j9;try simp only[rnA,Nat.reduceEqDiff,Nat.reduceLT,Nat.reduceAdd,Nat.reduceLeDiff,zbP g18,(show l3.length+1=y17.length from zbf g18)]
  exact⟨((w64 (v20+1)),y17),j9,by rw[hT16]; exact wm0 [.d,.k,.k,.k,.d,.d,.f] ⟨rfl,⟨MB.cs ⟨qdc,qdc,qdc⟩,⟨MB.cs ⟨qdc,rfl,qdc⟩,⟨MB.zaT (zq0 (e:=zaa) (t:=false) g18 (.cons (.cons (.same trivial) (.cons (.same trivial) (.cons (.fr (zc8 (e:=(eL (eI .i64))) (t:=false) rfl rfl (.inr rfl) rfl rfl (fun k h=>nomatch h) (fun h=>by cases h<;>contradiction))) .nil))) .nil)),qdc⟩⟩⟩⟩⟩
 rintro l3 rfl;rw[congrFun hT9 l3];refine zab ?_;try simp only[rnA,Nat.reduceEqDiff,Nat.reduceLT,Nat.reduceAdd,Nat.reduceLeDiff]
 replace h:=qac h; subst h;exact zl3.ret rfl (.zc5 (.cons (.lit _) (.cons (zal (e:=zaa) (t:=false) rfl (.inr rfl) rfl rfl (fun k h=>nomatch h) (fun h=>nomatch h)) .nil)))
def zer(N:Nat)(p0:S_api_Net)(p1:S_haruspexref05_Draft)(p2:S_haruspexref05_Bend):Option A3_S_api_Net:=
(zeV p0).bind fun r1=>
(zbT N p1).bind fun r3=>
(zbT N p1).bind fun r5=>
(zky p2 r5).bind fun r7=>
some (A3_S_api_Net.mk r1 r3 r7)
theorem zmF{N:Nat}{p0:S_api_Net}{p1:S_haruspexref05_Draft}{p2:S_haruspexref05_Bend}{r:A3_S_api_Net}(h:zer N p0 p1 p2=some r):Lx.FnA mC 15 [(.agg [(dI p0.grain),(fzE false zaa p0.nodes)]),(.agg [(dU8 p1.grain),(fzE false zaj p1.nodes),(fzE false (eI .u8) p1.order)]),(.agg [(dU8 p2.what),(dU8 p2.at_),(dU8 p2.row),(dI p2.n)])] (.agg [(dI r.a0.grain),(fzE false zaa r.a0.nodes),(dI r.a1.grain),(fzE false zaa r.a1.nodes),(dI r.a2.grain),(fzE false zaa r.a2.nodes)]):=by
 refine zAk (by conv=>lhs; cbv) ?_;unfold zer at h;refine zab ?_;obtain⟨r1,g2,h⟩:=bind_some h;try simp only[rnA,Nat.reduceEqDiff,reduceIte,Nat.reduceLT,Nat.reduceAdd,Nat.reduceLeDiff,Nat.reduceMul,Nat.reduceSub,Int.reduceLE,Int.reduceLT,Int.reduceBEq,Nat.reduceBEq,reduceCtorEq,zad,za5,zaE,zaX,za3,zcj,ze8]
 refine EvL.fnS (zpb g2) rfl rfl (.cons (Mzs.agg (.cons (.lit _) (.cons (zen _ _ (fun h=>by cases h<;>contradiction)) .nil))) .nil) ⟨⟨qdc,(zcu _ _),qdc⟩,qdc⟩ ⟨qdc,(zcu _ _),qdc⟩ ?_;obtain⟨r3,g4,h⟩:=bind_some h;try simp only[rnA,Nat.reduceEqDiff,reduceIte,Nat.reduceLT,Nat.reduceAdd,Nat.reduceLeDiff,Nat.reduceMul,Nat.reduceSub,Int.reduceLE,Int.reduceLT,Int.reduceBEq,Nat.reduceBEq,reduceCtorEq,zad,za5,zaE,zaX,za3,zcj]
 refine EvL.fn (zeM g4) rfl rfl (.cons (.zc5 (.cons (.lit _) (.cons (zat _ _ (fun h=>nomatch h)) (.cons (zat _ _ (fun h=>nomatch h)) .nil)))) .nil) ?_;obtain⟨r5,g6,h⟩:=bind_some h;try simp only[rnA,Nat.reduceEqDiff,reduceIte,Nat.reduceLT,Nat.reduceAdd,Nat.reduceLeDiff,Nat.reduceMul,Nat.reduceSub,Int.reduceLE,Int.reduceLT,Int.reduceBEq,Nat.reduceBEq,reduceCtorEq,zad,za5,zaE,zaX,za3,zcj]
 refine EvL.fn (zeM g6) rfl rfl (.cons (.zc5 (.cons (.lit _) (.cons (zat _ _ (fun h=>nomatch h)) (.cons (zat _ _ (fun h=>nomatch h)) .nil)))) .nil) ?_;obtain⟨r7,g8,h⟩:=bind_some h;try simp only[rnA,Nat.reduceEqDiff,reduceIte,Nat.reduceLT,Nat.reduceAdd,Nat.reduceLeDiff,Nat.reduceMul,Nat.reduceSub,Int.reduceLE,Int.reduceLT,Int.reduceBEq,Nat.reduceBEq,reduceCtorEq,zad,za5,zaE,zaX,za3,zcj]
 refine EvL.fn (zvQ g8) rfl rfl (.cons (.zc5 (.cons (.lit _) (.cons (.lit _) (.cons (.lit _) (.cons (.lit _) .nil))))) (.cons (.zc5 (.cons (.lit _) (.cons (zat _ _ (fun h=>nomatch h)) .nil))) .nil)) ?_;try simp only[rnA,Nat.reduceEqDiff,reduceIte,Nat.reduceLT,Nat.reduceAdd,Nat.reduceLeDiff,Nat.reduceMul,Nat.reduceSub,Int.reduceLE,Int.reduceLT,Int.reduceBEq,Nat.reduceBEq,reduceCtorEq,zad,za5,zaE,zaX,za3,zcj]
 replace h:=qac h; subst h;exact zl3.ret rfl (.zc5 (.cons (.lit _) (.cons (zat _ _ (fun h=>nomatch h)) (.cons (.lit _) (.cons (zat _ _ (fun h=>nomatch h)) (.cons (.lit _) (.cons (zat _ _ (fun h=>nomatch h)) .nil)))))))
def zcd(p0:Int):Option Bool:=
some false
theorem zeR{p0:Int}{r:Bool}(h:zcd p0=some r):Lx.Fn mC 163 [(dI p0)] (dB r):=by
 refine fnO (by conv=>lhs; cbv) ?_;unfold zcd at h;refine zab ?_;try simp only[rnA,Nat.reduceEqDiff,reduceIte,Nat.reduceLT,Nat.reduceAdd,Nat.reduceLeDiff,Nat.reduceMul,Nat.reduceSub,Int.reduceLE,Int.reduceLT,Int.reduceBEq,Nat.reduceBEq,reduceCtorEq]
 replace h:=qac h; subst h;exact zbO.ret rfl (.lit _)
def zcG(p0:Int)(p1:Int):Option Bool:=
(((zcd p0).bind fun r1=>
bif r1 then(
(zcd p1).bind fun r4=>
bif r4 then(
some (decide (p0<p1)))
else(
some true))
else(
some (decide (p0<p1))):Option Bool)).bind fun v4=>
some v4
theorem zhS{p0:Int}{p1:Int}{r:Bool}(h:zcG p0 p1=some r):Lx.Fn mC 145 [(dI p0),(dI p1)] (dB r):=by
 refine fnO (by conv=>lhs; cbv) ?_;unfold zcG at h;refine zab ?_;try simp only[rnA,Nat.reduceEqDiff,reduceIte,Nat.reduceLT,Nat.reduceAdd,Nat.reduceLeDiff,Nat.reduceMul,Nat.reduceSub,Int.reduceLE,Int.reduceLT,Int.reduceBEq,Nat.reduceBEq,reduceCtorEq]
 obtain⟨o1,j1,h⟩:=bind_some h;obtain⟨T1,hT1⟩:=mkT fun a:Bool=>⟨17,[(4,(dB a))],[]⟩
 refine EvL.jn T1 (fun a=>a=o1) ?_ ?_
 ·refine zab ?_;obtain⟨r1,g2,j1⟩:=bind_some j1;try simp only[rnA,Nat.reduceEqDiff,reduceIte,Nat.reduceLT,Nat.reduceAdd,Nat.reduceLeDiff,Nat.reduceMul,Nat.reduceSub,Int.reduceLE,Int.reduceLT,Int.reduceBEq,Nat.reduceBEq,reduceCtorEq]
  refine EvL.fn (zeR g2) rfl rfl (.cons (.lit _) .nil) ?_;try simp only[rnA,Nat.reduceEqDiff,reduceIte,Nat.reduceLT,Nat.reduceAdd,Nat.reduceLeDiff,Nat.reduceMul,Nat.reduceSub,Int.reduceLE,Int.reduceLT,Int.reduceBEq,Nat.reduceBEq,reduceCtorEq]
  cases c3:r1
  ·rw[c3,cond_false]at j1;try simp only[rnA,Nat.reduceEqDiff,reduceIte,Nat.reduceLT,Nat.reduceAdd,Nat.reduceLeDiff,Nat.reduceMul,Nat.reduceSub,Int.reduceLE,Int.reduceLT,Int.reduceBEq,Nat.reduceBEq,reduceCtorEq,c3]
   refine EvL.skip rfl ?_;try simp only[rnA,Nat.reduceEqDiff,reduceIte,Nat.reduceLT,Nat.reduceAdd,Nat.reduceLeDiff,Nat.reduceMul,Nat.reduceSub,Int.reduceLE,Int.reduceLT,Int.reduceBEq,Nat.reduceBEq,reduceCtorEq,c3]
   replace j1:=qac j1; subst j1;exact lfj hT1 rfl (wm0 [] (by exact trivial))
  rw[c3,cond_true]at j1;obtain⟨r4,g5,j1⟩:=bind_some j1;try simp only[rnA,Nat.reduceEqDiff,reduceIte,Nat.reduceLT,Nat.reduceAdd,Nat.reduceLeDiff,Nat.reduceMul,Nat.reduceSub,Int.reduceLE,Int.reduceLT,Int.reduceBEq,Nat.reduceBEq,reduceCtorEq,c3]
  refine EvL.fn (zeR g5) rfl rfl (.cons (.lit _) .nil) ?_;try simp only[rnA,Nat.reduceEqDiff,reduceIte,Nat.reduceLT,Nat.reduceAdd,Nat.reduceLeDiff,Nat.reduceMul,Nat.reduceSub,Int.reduceLE,Int.reduceLT,Int.reduceBEq,Nat.reduceBEq,reduceCtorEq,c3]
  cases c6:r4
  ·rw[c6,cond_false]at j1;try simp only[rnA,Nat.reduceEqDiff,reduceIte,Nat.reduceLT,Nat.reduceAdd,Nat.reduceLeDiff,Nat.reduceMul,Nat.reduceSub,Int.reduceLE,Int.reduceLT,Int.reduceBEq,Nat.reduceBEq,reduceCtorEq,c3,c6]
   replace j1:=qac j1; subst j1;exact lfj hT1 rfl (wm0 [] (by exact trivial))
  rw[c6,cond_true]at j1;try simp only[rnA,Nat.reduceEqDiff,reduceIte,Nat.reduceLT,Nat.reduceAdd,Nat.reduceLeDiff,Nat.reduceMul,Nat.reduceSub,Int.reduceLE,Int.reduceLT,Int.reduceBEq,Nat.reduceBEq,reduceCtorEq,c3,c6]
  replace j1:=qac j1; subst j1;exact lfj hT1 rfl (wm0 [] (by exact trivial))
 rintro v4 rfl;rw[congrFun hT1 v4];refine zab ?_;try simp only[rnA,Nat.reduceEqDiff,reduceIte,Nat.reduceLT,Nat.reduceAdd,Nat.reduceLeDiff,Nat.reduceMul,Nat.reduceSub,Int.reduceLE,Int.reduceLT,Int.reduceBEq,Nat.reduceBEq,reduceCtorEq]
 replace h:=qac h; subst h;exact zbO.ret rfl (.lit _)
def zbH(p0:Int):Option Bool:=
some false
theorem zdR{p0:Int}{r:Bool}(h:zbH p0=some r):Lx.Fn mC 153 [(dI p0)] (dB r):=by
 refine fnO (by conv=>lhs; cbv) ?_;unfold zbH at h;refine zab ?_;try simp only[rnA,Nat.reduceEqDiff,reduceIte,Nat.reduceLT,Nat.reduceAdd,Nat.reduceLeDiff,Nat.reduceMul,Nat.reduceSub,Int.reduceLE,Int.reduceLT,Int.reduceBEq,Nat.reduceBEq,reduceCtorEq]
 replace h:=qac h; subst h;exact zbO.ret rfl (.lit _)
def zau(p0:(List Int))(p1:Int):Nat→Int→Int→Option Int
 | 0,_,_=>none
 | n+1,v7,v8=>(
bif (decide (v7<v8))then(
(zla .u64 (IntKind.u64.wrap (w64 (v7+v8))) 1).bind fun q2=>
(zaP p0 (w64 q2)).bind fun x4=>
(zcG x4 p1).bind fun r6=>
bif r6 then(
zau p0 p1 n (w64 ((w64 q2)+1)) v8)
else(
zau p0 p1 n v7 (w64 q2)))
else(
some v7))
def zaK(p0:(List Int))(p1:Int):Option (Int×Bool):=
((zau p0 p1 ((p0.length:Int) - 0+2:Int).toNat 0 (p0.length:Int):Option Int)).bind fun v7=>
((bif (decide (v7<(p0.length:Int)))then(
(zaP p0 v7).bind fun x10=>
bif (x10 == p1)then(
some true)
else(
(zbH x10).bind fun r13=>
bif r13 then(
(zbH p1).bind fun r16=>
some r16)
else(
some false)))
else(
some false):Option Bool)).bind fun v5=>
some (v7,v5)
theorem zdA{p0:(List Int)}{p1:Int}{r:(Int×Bool)}(h:zaK p0 p1=some r):Lx.Fn mC 125 [(fzE false (eI .i64) p0),(dI p1)] (.tup [(dI r.1),(dB r.2)]):=by
 refine fnO (by conv=>lhs; cbv) ?_;unfold zaK at h;refine zab ?_;try simp only[rnA,Nat.reduceEqDiff,Nat.reduceLT,Nat.reduceAdd,reduceCtorEq,zam]
 obtain⟨o1,j1,h⟩:=bind_some h;obtain⟨T1,hT1⟩:=mkT fun a:Int=>⟨54,[(0,(fzE false (eI .i64) p0)),(1,(dI p1)),(6,(dI (p0.length:Int))),(7,(dI a))],[]⟩
 refine EvL.jn T1 (fun a=>a=o1) ?_ ?_
 ·refine zab ?_;simp only[rnA];obtain⟨T2,hT2⟩:=mkT fun a:(Int×Int)=>⟨54,[(0,(fzE false (eI .i64) p0)),(1,(dI p1)),(6,(dI (p0.length:Int))),(7,(dI a.1)),(8,(dI a.2))],[]⟩
  refine EvL.rounds (α:=(Int×Int)) T2 (fun n a=>zau p0 p1 n a.1 a.2=some o1) ((p0.length:Int) - 0+2:Int).toNat (0,(p0.length:Int)) (by rw[hT2]; exact wm0 [] (by exact trivial)) j1 (fun _ h=>nomatch (show(none:Option Int)=some o1 from h)) ?_;rintro n ⟨v7,v8⟩ j1;simp only[zau]at j1;rw[congrFun hT2 (v7,v8)];refine zab ?_;try simp only[rnA,Nat.reduceEqDiff,Nat.reduceLT,reduceCtorEq]
  cases c1:(decide (v7<v8))
  ·rw[c1,cond_false]at j1;try simp only[rnA]
   replace j1:=qac j1; subst j1;exact lfj hT1 rfl (wm0 [] (by exact trivial))
  rw[c1,cond_true]at j1;obtain⟨q2,g3,j1⟩:=bind_some j1;obtain⟨x4,g5,j1⟩:=bind_some j1;obtain⟨r6,g7,j1⟩:=bind_some j1;try simp only[rnA,Nat.reduceEqDiff,Nat.reduceLT,reduceCtorEq,(zdq g3).1,(zdq g3).2,zak (n:=1) (e:=(eI .i64)) rfl g5]
  refine EvL.fn (zhS g7) rfl rfl (.cons (.lit _) (.cons (.lit _) .nil)) ?_;try simp only[rnA,Nat.reduceEqDiff,Nat.reduceLT,reduceCtorEq]
  cases c8:r6
  ·rw[c8,cond_false]at j1;try simp only[rnA,Nat.reduceEqDiff,Nat.reduceLT,reduceCtorEq]
   exact⟨(v7,(w64 q2)),j1,by rw[hT2]; exact wm0 [] (by exact trivial)⟩
  rw[c8,cond_true]at j1;try simp only[rnA,Nat.reduceEqDiff,Nat.reduceLT,reduceCtorEq]
  exact⟨((w64 ((w64 q2)+1)),v8),j1,by rw[hT2]; exact wm0 [] (by exact trivial)⟩
 rintro v7 rfl;rw[congrFun hT1 v7];refine zab ?_;try simp only[rnA]
 obtain⟨o3,j3,h⟩:=bind_some h;obtain⟨T3,hT3⟩:=mkT fun a:Bool=>⟨54,[(4,(dI v7)),(5,(dB a))],[]⟩
 refine EvL.jn T3 (fun a=>a=o3) ?_ ?_
 ·refine zab ?_;try simp only[rnA,Nat.reduceEqDiff,Nat.reduceLT,reduceCtorEq]
  cases c9:(decide (v7<(p0.length:Int)))
  ·rw[c9,cond_false]at j3;try simp only[rnA,Nat.reduceEqDiff,Nat.reduceLT,reduceCtorEq]
   refine EvL.skip rfl ?_;try simp only[rnA,Nat.reduceEqDiff,Nat.reduceLT,reduceCtorEq]
   refine EvL.skip rfl ?_;try simp only[rnA,Nat.reduceEqDiff,Nat.reduceLT,reduceCtorEq]
   replace j3:=qac j3; subst j3;exact lfj hT3 rfl (wm0 [] (by exact trivial))
  rw[c9,cond_true]at j3;obtain⟨x10,g11,j3⟩:=bind_some j3;try simp only[rnA,Nat.reduceEqDiff,Nat.reduceLT,reduceCtorEq,zak (n:=1) (e:=(eI .i64)) rfl g11]
  cases c12:(x10 == p1)
  ·rw[c12,cond_false]at j3;obtain⟨r13,g14,j3⟩:=bind_some j3;try simp only[rnA,Nat.reduceEqDiff,Nat.reduceLT,reduceCtorEq,zak (n:=1) (e:=(eI .i64)) rfl g11]
   refine EvL.fn (zdR g14) rfl rfl (.cons (.lit _) .nil) ?_;try simp only[rnA,Nat.reduceEqDiff,Nat.reduceLT,reduceCtorEq]
   cases c15:r13
   ·rw[c15,cond_false]at j3;try simp only[rnA,Nat.reduceLT]
    refine EvL.skip rfl ?_;try simp only[rnA,Nat.reduceEqDiff,Nat.reduceLT,reduceCtorEq]
    replace j3:=qac j3; subst j3;exact lfj hT3 rfl (wm0 [] (by exact trivial))
   rw[c15,cond_true]at j3;obtain⟨r16,g17,j3⟩:=bind_some j3;try simp only[rnA,Nat.reduceEqDiff,Nat.reduceLT,reduceCtorEq]
   refine EvL.fn (zdR g17) rfl rfl (.cons (.lit _) .nil) ?_;try simp only[rnA,Nat.reduceEqDiff,Nat.reduceLT,reduceCtorEq]
   replace j3:=qac j3; subst j3;exact lfj hT3 rfl (wm0 [] (by exact trivial))
  rw[c12,cond_true]at j3;try simp only[rnA,Nat.reduceEqDiff,Nat.reduceLT,reduceCtorEq]
  refine EvL.skip rfl ?_;try simp only[rnA,Nat.reduceEqDiff,Nat.reduceLT,reduceCtorEq]
  refine EvL.skip rfl ?_;try simp only[rnA,Nat.reduceEqDiff,Nat.reduceLT,reduceCtorEq]
  replace j3:=qac j3; subst j3;exact lfj hT3 rfl (wm0 [] (by exact trivial))
 rintro v5 rfl;rw[congrFun hT3 v5];refine zab ?_;try simp only[rnA]
 replace h:=qac h; subst h;exact zbO.ret rfl (Snp.zos (.cons (.lit _) (.cons (.lit _) .nil)))
end Go.Dc
