/-
 What r05_Draft_Net computes. Conditions: none.
-/
import Derived.Test.YtnfgibomhkbcpaaNtJ5
set_option linter.unusedSimpArgs false
set_option linter.unusedVariables false
set_option maxRecDepth 100000
set_option maxHeartbeats 4000000
namespace Go.Dc
open Go Go.Mx Go.Lx Go.Proofs
def zbj(p0:S_haruspexref05_Draft)(r5:(List Int)):Nat→Int→Int→(List S_api_Node)→Option (List S_api_Node)
 | 0,_,_,_=>none
 | n+1,v6,v7,l2=>(
bif (decide (v7<(zdf (zdd (p0.nodes.length:Int) 1) 5)))then(
((bif (decide (v7<(p0.nodes.length:Int)))then(
(zaZ p0.nodes v7).bind fun x9=>
some (x9.zaE,x9.parents,x9.w))
else(
some (0,0,[])):Option ((Int×Int×(List Int))))).bind fun o=>match o with
|(b4_0,b4_1,b4_2)=>(
(ztN .i64 (w64 (v6 * (w64 (2+(w64 (b4_0.tmod 2)))))) (IntKind.u64.wrap (w64 ((w64 ((zdf (zdd (p0.nodes.length:Int) 1) 5) - 1)) - v7)))).bind fun q11=>
((bif (decide (100<q11))then(
some 2)
else(
some (w64 (2+(w64 (b4_0.tmod 2))))):Option Int)).bind fun v9=>
(zaZ r5 v7).bind fun x14=>
(zaZ l2 x14).bind fun x16=>
(zfu l2 x14 (S_api_Node.mk v9 x16.parents x16.rows)).bind fun y18=>
zbj p0 r5 n (w64 (v6 * v9)) (w64 (v7+1)) y18))
else(
some l2))
def zbE(N:Nat)(p0:S_haruspexref05_Draft)(r5:(List Int)):Nat→Int→(List S_api_Node)→Option (List S_api_Node)
 | 0,_,_=>none
 | n+1,v10,l2'=>(
bif (decide (v10<(zdf (zdd (p0.nodes.length:Int) 1) 5)))then(
((bif (decide (v10<(p0.nodes.length:Int)))then(
(zaZ p0.nodes v10).bind fun x22=>
some (x22.zaE,x22.parents,x22.w))
else(
some (0,0,[])):Option ((Int×Int×(List Int))))).bind fun o=>match o with
|(b4_0,b4_1,b4_2)=>(
(zaZ r5 v10).bind fun x24=>
(zn5 r5 v10 x24 (zdf (zdd (p0.nodes.length:Int) 1) 5) b4_1 l2').bind fun y26=>
(znA N (w64 (1+(w64 (p0.grain.tmod 60)))) x24 b4_2 y26).bind fun y28=>
zbE N p0 r5 n (w64 (v10+1)) y28))
else(
some l2'))
def zcb(N:Nat)(p0:S_haruspexref05_Draft):Option S_api_Net:=
(zet 56 (zdf (zdd (p0.nodes.length:Int) 1) 5) (S_api_Node.mk 0 [] [])).bind fun y1=>
(zet 1 (zdf (zdd (p0.nodes.length:Int) 1) 5) 0).bind fun y3=>
(za4 N (S_haruspexref02_Draft.mk y3 0 p0.order)).bind fun r5=>
((zbj p0 r5 ((zdf (zdd (p0.nodes.length:Int) 1) 5) - 0+2:Int).toNat 1 0 y1:Option (List S_api_Node))).bind fun l2=>
((zbE N p0 r5 ((zdf (zdd (p0.nodes.length:Int) 1) 5) - 0+2:Int).toNat 0 l2:Option (List S_api_Node))).bind fun l2'=>
some (S_api_Net.mk (w64 (1+(w64 (p0.grain.tmod 60)))) l2')
def zft:C:=
 .seq (rg [oW 1 0,
 ⟨some 2,.alloc [(.int .i64 0),(.slice none 0 0)],none⟩])
 (.seq (rg [oF 16 1 1,
 oL 17 16,
 oE 18 17,
 ⟨some 19,.mm true [(.s 18),(.c (.int .i64 1))],none⟩,
 ⟨some 20,.mm false [(.s 19),(.c (.int .i64 5))],none⟩,
 oM 3 20])
 (.seq (.reg true false [oF 21 0 1,
 oL 22 21,
 ⟨some 23,.bin .rem (.s 22) (.c (.int .u8 60)),none⟩,
 ⟨some 24,.conv .i64 (.s 23),none⟩,
 ⟨some 25,.bin .add (.c (.int .i64 1)) (.s 24),none⟩,
 oM 26 3,
 ⟨some 27,.mk 3 56 [(.int .i64 0),(.slice none 0 0),(.slice none 0 0)] (.s 26) (.s 26),none⟩,
 ⟨some 28,.build [(.int .i64 0),(.slice none 0 0)] [(0,1,(.s 25)),(1,1,(.s 27))],none⟩,
 ⟨some 4,.alloc [(.int .i64 0),(.slice none 0 0)],none⟩,
 oS 2 4 28])
 (.seq (.reg true false [oM 29 3,
 oF 31 2 1,
 oL 32 31,
 ⟨some 30,.mk 1 1 [(.int .u8 0)] (.s 29) (.s 29),none⟩,
 ⟨some 33,.build [(.slice none 0 0),(.int .u16 0),(.slice none 0 0)] [(0,1,(.s 30)),(2,1,(.s 32))],none⟩,
 oU 34 109 33,
 oM 5 34])
 (.seq (rg [oK 6 1])
 (.seq (.seq (rg [oK 7 0])
 (.scope (.block 0 (.loop (.seq (.seq (rg [oM 35 7,
 oM 36 3,
 oB 37 .lss 35 36])
 (.cond (.s 37) (.skip)
 (.exit 0)))
 (.seq (.block 1 (.seq (rg [⟨some 8,.alloc [(.int .u8 0),(.int .u8 0),(.slice none 0 0)],none⟩])
 (.seq (.seq (rg [oM 40 7,
 oF 41 1 1,
 oL 42 41,
 oE 43 42,
 oB 44 .lss 40 43])
 (.scope (.cond (.s 44) (rg [oF 45 1 1,
 oL 46 45,
 oM 47 7,
 oI 48 3 46 47,
 oN 49 3 48,
 oS 3 8 49])
 (.skip))))
 (.seq (rg [oF 50 0 8,
 oL 51 50,
 ⟨some 52,.bin .rem (.s 51) (.c (.int .u8 2)),none⟩,
 ⟨some 53,.conv .i64 (.s 52),none⟩,
 ⟨some 54,.bin .add (.c (.int .i64 2)) (.s 53),none⟩,
 oM 9 54])
 (.seq (.seq (rg [oM 55 6,
 oM 56 9,
 oB 57 .mul 55 56,
 oM 58 3,
 oD 59 .sub 58 1,
 oM 60 7,
 oB 61 .sub 59 60,
 ⟨some 62,.conv .u64 (.s 61),none⟩,
 oB 63 .shl 57 62,
 oD 64 .gtr 63 100])
 (.scope (.cond (.s 64) (rg [oK 9 2])
 (.skip))))
 (.seq (rg [oM 65 6,
 oM 66 9,
 oB 67 .mul 65 66,
 oM 6 67])
 (.reg true false [oF 68 1 4,
 oL 69 68,
 oM 70 5,
 oM 71 7,
 oI 72 1 70 71,
 oL 73 72,
 oM 74 9,
 oI 75 3 69 73,
 oF 76 0 75,
 oS 1 76 74])))))))
 (rg [oM 38 7,
 oD 39 .add 38 1,
 oM 7 39])))))))
 (.seq (.seq (rg [oK 10 0])
 (.scope (.block 2 (.loop (.seq (.seq (rg [oM 77 10,
 oM 78 3,
 oB 79 .lss 77 78])
 (.cond (.s 79) (.skip)
 (.exit 2)))
 (.seq (.block 3 (.seq (rg [⟨some 11,.alloc [(.int .u8 0),(.int .u8 0),(.slice none 0 0)],none⟩])
 (.seq (.seq (rg [oM 82 10,
 oF 83 1 1,
 oL 84 83,
 oE 85 84,
 oB 86 .lss 82 85])
 (.scope (.cond (.s 86) (rg [oF 87 1 1,
 oL 88 87,
 oM 89 10,
 oI 90 3 88 89,
 oN 91 3 90,
 oS 3 11 91])
 (.skip))))
 (.seq (rg [oM 92 5,
 oM 93 10,
 oI 94 1 92 93,
 oL 95 94,
 oM 12 95])
 (.seq (.seq (rg [oK 13 0])
 (.scope (.block 4 (.loop (.seq (.seq (rg [oM 96 13,
 oM 97 3,
 oB 98 .lss 96 97])
 (.cond (.s 98) (.skip)
 (.exit 4)))
 (.seq (.block 5 (.seq (rg [oK 14 0])
 (.scope (.block 6 (.loop (.seq (.seq (rg [oM 101 14,
 oM 102 10,
 oB 103 .lss 101 102])
 (.cond (.s 103) (.skip)
 (.exit 6)))
 (.seq (.block 7 (.seq (.scope (rg [oM 106 5,
 oM 107 14,
 oI 108 1 106 107,
 oL 109 108,
 oM 110 13,
 oB 111 .eql 109 110,
 oM 112 111,
 oFg 113 1 11 112 true,
 oLg 114 113 112 true,
 oMg 115 14 112 true,
 ⟨some 116,.conv .u64 (.s 115),some (112,true)⟩,
 ⟨some 117,.bin .shr (.s 114) (.s 116),some (112,true)⟩,
 ⟨some 118,.bin .and (.s 117) (.c (.int .u8 1)),some (112,true)⟩,
 ⟨some 119,.bin .eql (.s 118) (.c (.int .u8 1)),some (112,true)⟩,
 ⟨some 120,.pick (.s 112) (.s 119) (.c (.bool false)),none⟩,
 oM 121 120,
 oFg 122 1 4 121 true,
 oLg 123 122 121 true,
 oMg 124 12 121 true,
 ⟨some 125,.idxS 3 (.s 123) (.s 124),some (121,true)⟩,
 oFg 126 1 125 121 true,
 oLg 127 126 121 true,
 ⟨some 128,.len (.s 127),some (121,true)⟩,
 oDg 129 .lss 128 3 121 true,
 ⟨some 130,.pick (.s 121) (.s 129) (.c (.bool false)),none⟩]))
 (.scope (.cond (.s 130) (.reg true false [oF 131 1 4,
 oL 132 131,
 oM 133 12,
 oF 134 1 4,
 oL 135 134,
 oM 136 12,
 oI 137 3 135 136,
 oF 138 1 137,
 oL 139 138,
 oM 140 13,
 ⟨some 141,.bsl 1 1 [(.int .i64 0)] [(0,(.s 140))],none⟩,
 ⟨none,.avo [(.s 131)] (.s 139),none⟩,
 oT 142 1 8 139 141,
 oI 143 3 132 133,
 oF 144 1 143,
 oS 1 144 142])
 (.skip)))))
 (rg [oM 104 14,
 oD 105 .add 104 1,
 oM 14 105]))))))))
 (rg [oM 99 13,
 oD 100 .add 99 1,
 oM 13 100])))))))
 (.seq (rg [oK 15 0])
 (.scope (.block 8 (.loop (.seq (.seq (rg [oM 145 15,
 oN 146 2 4,
 oM 147 12,
 oV 148 83 146 147,
 oU 149 82 148,
 oB 150 .lss 145 149])
 (.cond (.s 150) (.skip)
 (.exit 8)))
 (.seq (.block 9 (.reg true true [oF 153 1 4,
 oL 154 153,
 oM 155 12,
 oF 156 1 4,
 oL 157 156,
 oM 158 12,
 oI 159 3 157 158,
 oF 160 2 159,
 oL 161 160,
 oF 162 0 4,
 oL 163 162,
 oF 164 1 4,
 oL 165 164,
 oM 166 12,
 oI 167 3 165 166,
 oF 168 0 167,
 oL 169 168,
 oF 170 2 11,
 oL 171 170,
 oM 172 15,
 oF 173 1 4,
 oL 174 173,
 oM 175 12,
 oI 176 3 174 175,
 oF 177 0 176,
 oL 178 177,
 oD 179 .add 178 1,
 oB 180 .mul 172 179,
 ⟨some 181,.call 110 [(.s 163),(.s 169),(.s 171),(.s 180)],none⟩,
 ⟨some 182,.bsl 1 1 [(.slice none 0 0)] [(0,(.s 181))],none⟩,
 ⟨none,.avo [(.s 153)] (.s 161),none⟩,
 oT 183 1 24 161 182,
 oI 184 3 154 155,
 oF 185 2 184,
 oS 1 185 183]))
 (rg [oM 151 15,
 oD 152 .add 151 1,
 oM 15 152]))))))))))))
 (rg [oM 80 10,
 oD 81 .add 80 1,
 oM 10 81])))))))
 (.seq (rg [oN 186 2 4,
 oS 2 2 186])
 (.ret))))))))
theorem zg6:ziU mC 48=some (187,zft,[.cell 2 (some 2)],false):=zbu (by kernel_rfl)
theorem zhG{N:Nat}{p0:S_haruspexref05_Draft}{r:S_api_Net}(h:zcb N p0=some r):Lx.Fn mC 48 [(.agg [(dU8 p0.grain),(fzE false zaj p0.nodes),(fzE false (eI .u8) p0.order)])] (.agg [(dI r.grain),(fzE true zab r.nodes)]):=by
 refine Fn.of zg6 (zbo rfl) (qaf rfl) ?_;unfold zcb at h;simp only[zft,zjR];refine zaa ?_;obtain⟨y1,g2,h⟩:=bind_some h;obtain⟨y3,g4,h⟩:=bind_some h;obtain⟨r5,g6,h⟩:=bind_some h;try simp only[rnA,Nat.reduceEqDiff,Nat.reduceLT,Nat.reduceAdd,Nat.reduceLeDiff,Int.reduceBEq,reduceCtorEq,zat,(zaC g2).1.1,(zaC g2).1.2,qbU,(show List.replicate (Int.toNat (zdf (zdd (p0.nodes.length:Int) 1) 5)) [(dI 0),zaU,zaU]=y1.map (zaf.c true)from zb2 g2 (zaf.c true)),(zaC g4).1.2,(show List.replicate (Int.toNat (zdf (zdd (p0.nodes.length:Int) 1) 5)) [(dU8 0)]=y3.map ((eI .u8).c true)from zb2 g4 ((eI .u8).c true))]
 refine EvL.fn (zes g6) rfl rfl (.cons (.zd9 (.cons (zbD (e:=(eI .u8)) (t:=true) rfl (.inl rfl) (zby g4).symm (zby g4).symm (fun k h=>by cases h; exact qal _) (fun h=>nomatch h)) (.cons (.lit _) (.cons (zah _ _ (fun h=>nomatch h)) .nil)))) .nil) ?_;try simp only[rnA,Nat.reduceEqDiff,Nat.reduceLT,reduceCtorEq]
 obtain⟨o7,j7,h⟩:=bind_some h;obtain⟨T7,hT7⟩:=mkT fun a:(List S_api_Node)=>⟨187,[(1,(.ptr 0 0)),(2,(.ptr 1 0)),(3,(dI (zdf (zdd (p0.nodes.length:Int) 1) 5))),(4,(.ptr 3 0)),(5,(fzE true (eI .i64) r5))],[.cells [(dU8 p0.grain),(fzE false zaj p0.nodes),(fzE false (eI .u8) p0.order)],.cells [(dI 0),zaU],.els 3 (a.map (zaf.c true)),.cells [(dI (w64 (1+(w64 (p0.grain.tmod 60))))),(.sl 2 0 3 (Int.toNat (zdf (zdd (p0.nodes.length:Int) 1) 5)) (some (Int.toNat (zdf (zdd (p0.nodes.length:Int) 1) 5))) (Int.toNat (zdf (zdd (p0.nodes.length:Int) 1) 5)))]]⟩
 refine EvL.jn T7 (fun a=>a=o7∧a.length=(Int.toNat (zdf (zdd (p0.nodes.length:Int) 1) 5))) ?_ ?_
 ·refine zaa ?_;simp only[rnA];obtain⟨T12,hT12⟩:=mkT fun a:(Int×Int×(List S_api_Node))=>⟨187,[(1,(.ptr 0 0)),(2,(.ptr 1 0)),(3,(dI (zdf (zdd (p0.nodes.length:Int) 1) 5))),(4,(.ptr 3 0)),(5,(fzE true (eI .i64) r5)),(6,(dI a.1)),(7,(dI a.2.1))],[.cells [(dU8 p0.grain),(fzE false zaj p0.nodes),(fzE false (eI .u8) p0.order)],.cells [(dI 0),zaU],.els 3 (a.2.2.map (zaf.c true)),.cells [(dI (w64 (1+(w64 (p0.grain.tmod 60))))),(.sl 2 0 3 (Int.toNat (zdf (zdd (p0.nodes.length:Int) 1) 5)) (some (Int.toNat (zdf (zdd (p0.nodes.length:Int) 1) 5))) (Int.toNat (zdf (zdd (p0.nodes.length:Int) 1) 5)))]]⟩
  refine EvL.rounds (α:=(Int×Int×(List S_api_Node))) T12 (fun n a=>zbj p0 r5 n a.1 a.2.1 a.2.2=some o7∧a.2.2.length=(Int.toNat (zdf (zdd (p0.nodes.length:Int) 1) 5))) ((zdf (zdd (p0.nodes.length:Int) 1) 5) - 0+2:Int).toNat (1,0,y1) (by rw[hT12]; exact wm0 [.k,.k,.k,.k] ⟨MB.cs ⟨qdb,qdb,qdb,qdb⟩,⟨MB.cs ⟨qdb,qdb,qdb⟩,⟨MB.es zaf true y1,⟨MB.cs ⟨qdb,rfl,qdb⟩,qdb⟩⟩⟩⟩) ⟨j7,zby g2⟩ (fun _ h=>nomatch (show(none:Option (List S_api_Node))=some o7 from h.1)) ?_;rintro n ⟨v6,v7,l2⟩ ⟨j7,el2⟩;simp only[zbj]at j7;rw[congrFun hT12 (v6,v7,l2)];refine zaa ?_;try simp only[rnA,Nat.reduceEqDiff,Nat.reduceLT]
  cases c7:(decide (v7<(zdf (zdd (p0.nodes.length:Int) 1) 5)))
  ·rw[c7,cond_false]at j7;try simp only[rnA]
   replace j7:=qac j7; subst j7;exact⟨_,⟨rfl,el2⟩,by rw[hT7]; exact wm0 [.k,.k,.k,.k] ⟨MB.cs ⟨qdb,qdb,qdb,qdb⟩,⟨MB.cs ⟨qdb,qdb,qdb⟩,⟨MB.es zaf true l2,⟨MB.cs ⟨qdb,rfl,qdb⟩,qdb⟩⟩⟩⟩⟩
  rw[c7,cond_true]at j7;try simp only[rnA,Nat.reduceEqDiff,Nat.reduceLT,Nat.reduceAdd,zat]
  obtain⟨o13,j13,j7⟩:=bind_some j7;obtain⟨T13,hT13⟩:=mkT fun a:(Int×Int×(List Int))=>⟨187,[(1,(.ptr 0 0)),(2,(.ptr 1 0)),(3,(dI (zdf (zdd (p0.nodes.length:Int) 1) 5))),(4,(.ptr 3 0)),(5,(fzE true (eI .i64) r5)),(6,(dI v6)),(7,(dI v7)),(8,(.ptr 4 0))],[.cells [(dU8 p0.grain),(fzE false zaj p0.nodes),(fzE false (eI .u8) p0.order)],.cells [(dI 0),zaU],.els 3 (l2.map (zaf.c true)),.cells [(dI (w64 (1+(w64 (p0.grain.tmod 60))))),(.sl 2 0 3 (Int.toNat (zdf (zdd (p0.nodes.length:Int) 1) 5)) (some (Int.toNat (zdf (zdd (p0.nodes.length:Int) 1) 5))) (Int.toNat (zdf (zdd (p0.nodes.length:Int) 1) 5)))],.cells [(dU8 a.1),(dU8 a.2.1),(fzE false (eI .u8) a.2.2)]]⟩
  refine EvL.jn T13 (fun a=>a=o13) ?_ ?_
  ·refine zaa ?_;try simp only[rnA,Nat.reduceEqDiff]
   cases c8:(decide (v7<(p0.nodes.length:Int)))
   ·rw[c8,cond_false]at j13;try simp only[rnA]
    replace j13:=qac j13; subst j13;exact lfj hT13 rfl (wm0 [.k,.k,.k,.k,.k] ⟨MB.cs ⟨qdb,qdb,qdb,qdb⟩,⟨MB.cs ⟨qdb,qdb,qdb⟩,⟨MB.es zaf true l2,⟨MB.cs ⟨qdb,rfl,qdb⟩,⟨MB.zyK (.cons (.same trivial) (.cons (.same trivial) (.cons (.fr (zmr (eI .u8))) .nil))),qdb⟩⟩⟩⟩⟩)
   rw[c8,cond_true]at j13;obtain⟨x9,g10,j13⟩:=bind_some j13;try simp only[rnA,Nat.reduceEqDiff,Nat.reduceLT,Nat.reduceAdd,Nat.reduceLeDiff,zcL,zao (n:=3) (e:=zaj) rfl g10]
   replace j13:=qac j13; subst j13;exact lfj hT13 rfl (wm0 [.k,.k,.k,.k,.k] ⟨MB.cs ⟨qdb,qdb,qdb,qdb⟩,⟨MB.cs ⟨qdb,qdb,qdb⟩,⟨MB.es zaf true l2,⟨MB.cs ⟨qdb,rfl,qdb⟩,⟨MB.cs ⟨qdb,qdb,qdb,qdb⟩,qdb⟩⟩⟩⟩⟩)
  rintro⟨b4_0,b4_1,b4_2⟩ rfl;dsimp only at j7;rw[congrFun hT13 (b4_0,b4_1,b4_2)];refine zaa ?_;obtain⟨q11,g12,j7⟩:=bind_some j7;try simp only[rnA,Nat.reduceEqDiff,Nat.reduceLT,Int.reduceBEq,(zfL g12).1,(zfL g12).2]
  obtain⟨o14,j14,j7⟩:=bind_some j7;obtain⟨T14,hT14⟩:=mkT fun a:Int=>⟨187,[(1,(.ptr 0 0)),(2,(.ptr 1 0)),(3,(dI (zdf (zdd (p0.nodes.length:Int) 1) 5))),(4,(.ptr 3 0)),(5,(fzE true (eI .i64) r5)),(6,(dI v6)),(7,(dI v7)),(9,(dI a))],[.cells [(dU8 p0.grain),(fzE false zaj p0.nodes),(fzE false (eI .u8) p0.order)],.cells [(dI 0),zaU],.els 3 (l2.map (zaf.c true)),.cells [(dI (w64 (1+(w64 (p0.grain.tmod 60))))),(.sl 2 0 3 (Int.toNat (zdf (zdd (p0.nodes.length:Int) 1) 5)) (some (Int.toNat (zdf (zdd (p0.nodes.length:Int) 1) 5))) (Int.toNat (zdf (zdd (p0.nodes.length:Int) 1) 5)))]]⟩
  refine EvL.jn T14 (fun a=>a=o14) ?_ ?_
  ·refine zaa ?_;try simp only[rnA,Nat.reduceEqDiff]
   cases c13:(decide (100<q11))
   ·rw[c13,cond_false]at j14;try simp only[rnA]
    replace j14:=qac j14; subst j14;exact lfj hT14 rfl (wm0 [.k,.k,.k,.k] ⟨MB.cs ⟨qdb,qdb,qdb,qdb⟩,⟨MB.cs ⟨qdb,qdb,qdb⟩,⟨MB.es zaf true l2,⟨MB.cs ⟨qdb,rfl,qdb⟩,qdb⟩⟩⟩⟩)
   rw[c13,cond_true]at j14;try simp only[rnA,Nat.reduceLT]
   replace j14:=qac j14; subst j14;exact lfj hT14 rfl (wm0 [.k,.k,.k,.k] ⟨MB.cs ⟨qdb,qdb,qdb,qdb⟩,⟨MB.cs ⟨qdb,qdb,qdb⟩,⟨MB.es zaf true l2,⟨MB.cs ⟨qdb,rfl,qdb⟩,qdb⟩⟩⟩⟩)
  rintro v9 rfl;rw[congrFun hT14 v9];refine zaa ?_;obtain⟨x14,g15,j7⟩:=bind_some j7;obtain⟨x16,g17,j7⟩:=bind_some j7;obtain⟨y18,g19,j7⟩:=bind_some j7;try simp only[rnA,Nat.reduceEqDiff,Nat.reduceLT,Nat.reduceAdd,Nat.reduceLeDiff,zeb,zao (n:=1) (e:=(eI .i64)) rfl g15,el2,zbl g17,(show x14<(((Int.toNat (zdf (zdd (p0.nodes.length:Int) 1) 5)):Nat):Int)from el2 ▸ zbm g17),zaR g17 (zaf.c true),(show(l2.map (zaf.c true)).set x14.toNat [(dI v9),(nE true (eI .i64) x16.parents),(nE true (eL (eI .i64)) x16.rows)]=y18.map (zaf.c true)from zbs g19 (zaf.c true))]
  exact⟨((w64 (v6 * v9)),(w64 (v7+1)),y18),⟨j7,(zbg g19).trans el2⟩,by rw[hT12]; exact wm0 [.k,.k,.k,.k] ⟨MB.cs ⟨qdb,qdb,qdb,qdb⟩,⟨MB.cs ⟨qdb,qdb,qdb⟩,⟨MB.es zaf true y18,⟨MB.cs ⟨qdb,rfl,qdb⟩,qdb⟩⟩⟩⟩⟩
 rintro l2 ⟨rfl,el2⟩;rw[congrFun hT7 l2];refine zaa ?_;try simp only[rnA,Nat.reduceLT]
 obtain⟨o18,j18,h⟩:=bind_some h;obtain⟨T18,hT18⟩:=mkT fun a:(List S_api_Node)=>⟨187,[(2,(.ptr 1 0)),(4,(.ptr 3 0))],[.gone,.cells [(dI 0),zaU],.els 3 (a.map (zaf.c true)),.cells [(dI (w64 (1+(w64 (p0.grain.tmod 60))))),(.sl 2 0 3 (Int.toNat (zdf (zdd (p0.nodes.length:Int) 1) 5)) (some (Int.toNat (zdf (zdd (p0.nodes.length:Int) 1) 5))) (Int.toNat (zdf (zdd (p0.nodes.length:Int) 1) 5)))]]⟩
 refine EvL.jn T18 (fun a=>a=o18∧a.length=(Int.toNat (zdf (zdd (p0.nodes.length:Int) 1) 5))) ?_ ?_
 ·refine zaa ?_;simp only[rnA];obtain⟨T21,hT21⟩:=mkT fun a:(Int×(List S_api_Node))=>⟨187,[(1,(.ptr 0 0)),(2,(.ptr 1 0)),(3,(dI (zdf (zdd (p0.nodes.length:Int) 1) 5))),(4,(.ptr 3 0)),(5,(fzE true (eI .i64) r5)),(10,(dI a.1))],[.cells [(dU8 p0.grain),(fzE false zaj p0.nodes),(fzE false (eI .u8) p0.order)],.cells [(dI 0),zaU],.els 3 (a.2.map (zaf.c true)),.cells [(dI (w64 (1+(w64 (p0.grain.tmod 60))))),(.sl 2 0 3 (Int.toNat (zdf (zdd (p0.nodes.length:Int) 1) 5)) (some (Int.toNat (zdf (zdd (p0.nodes.length:Int) 1) 5))) (Int.toNat (zdf (zdd (p0.nodes.length:Int) 1) 5)))]]⟩
  refine EvL.rounds (α:=(Int×(List S_api_Node))) T21 (fun n a=>zbE N p0 r5 n a.1 a.2=some o18∧a.2.length=(Int.toNat (zdf (zdd (p0.nodes.length:Int) 1) 5))) ((zdf (zdd (p0.nodes.length:Int) 1) 5) - 0+2:Int).toNat (0,l2) (by rw[hT21]; exact wm0 [.k,.k,.k,.k] ⟨MB.cs ⟨qdb,qdb,qdb,qdb⟩,⟨MB.cs ⟨qdb,qdb,qdb⟩,⟨MB.es zaf true l2,⟨MB.cs ⟨qdb,rfl,qdb⟩,qdb⟩⟩⟩⟩) ⟨j18,el2⟩ (fun _ h=>nomatch (show(none:Option (List S_api_Node))=some o18 from h.1)) ?_;rintro n ⟨v10,l2'⟩ ⟨j18,el2'⟩;simp only[zbE]at j18;rw[congrFun hT21 (v10,l2')];refine zaa ?_;try simp only[rnA,Nat.reduceEqDiff,Nat.reduceLT]
  cases c20:(decide (v10<(zdf (zdd (p0.nodes.length:Int) 1) 5)))
  ·rw[c20,cond_false]at j18;try simp only[rnA]
   replace j18:=qac j18; subst j18;exact⟨_,⟨rfl,el2'⟩,by rw[hT18]; exact wm0 [.d,.k,.k,.k] ⟨rfl,⟨MB.cs ⟨qdb,qdb,qdb⟩,⟨MB.es zaf true l2',⟨MB.cs ⟨qdb,rfl,qdb⟩,qdb⟩⟩⟩⟩⟩
  rw[c20,cond_true]at j18;try simp only[rnA,Nat.reduceEqDiff,Nat.reduceLT,Nat.reduceAdd,zat]
  obtain⟨o22,j22,j18⟩:=bind_some j18;obtain⟨T22,hT22⟩:=mkT fun a:(Int×Int×(List Int))=>⟨187,[(1,(.ptr 0 0)),(2,(.ptr 1 0)),(3,(dI (zdf (zdd (p0.nodes.length:Int) 1) 5))),(4,(.ptr 3 0)),(5,(fzE true (eI .i64) r5)),(10,(dI v10)),(11,(.ptr 4 0))],[.cells [(dU8 p0.grain),(fzE false zaj p0.nodes),(fzE false (eI .u8) p0.order)],.cells [(dI 0),zaU],.els 3 (l2'.map (zaf.c true)),.cells [(dI (w64 (1+(w64 (p0.grain.tmod 60))))),(.sl 2 0 3 (Int.toNat (zdf (zdd (p0.nodes.length:Int) 1) 5)) (some (Int.toNat (zdf (zdd (p0.nodes.length:Int) 1) 5))) (Int.toNat (zdf (zdd (p0.nodes.length:Int) 1) 5)))],.cells [(dU8 a.1),(dU8 a.2.1),(fzE false (eI .u8) a.2.2)]]⟩
  refine EvL.jn T22 (fun a=>a=o22) ?_ ?_
  ·refine zaa ?_;try simp only[rnA,Nat.reduceEqDiff]
   cases c21:(decide (v10<(p0.nodes.length:Int)))
   ·rw[c21,cond_false]at j22;try simp only[rnA]
    replace j22:=qac j22; subst j22;exact lfj hT22 rfl (wm0 [.k,.k,.k,.k,.k] ⟨MB.cs ⟨qdb,qdb,qdb,qdb⟩,⟨MB.cs ⟨qdb,qdb,qdb⟩,⟨MB.es zaf true l2',⟨MB.cs ⟨qdb,rfl,qdb⟩,⟨MB.zyK (.cons (.same trivial) (.cons (.same trivial) (.cons (.fr (zmr (eI .u8))) .nil))),qdb⟩⟩⟩⟩⟩)
   rw[c21,cond_true]at j22;obtain⟨x22,g23,j22⟩:=bind_some j22;try simp only[rnA,Nat.reduceEqDiff,Nat.reduceLT,Nat.reduceAdd,Nat.reduceLeDiff,zcL,zao (n:=3) (e:=zaj) rfl g23]
   replace j22:=qac j22; subst j22;exact lfj hT22 rfl (wm0 [.k,.k,.k,.k,.k] ⟨MB.cs ⟨qdb,qdb,qdb,qdb⟩,⟨MB.cs ⟨qdb,qdb,qdb⟩,⟨MB.es zaf true l2',⟨MB.cs ⟨qdb,rfl,qdb⟩,⟨MB.cs ⟨qdb,qdb,qdb,qdb⟩,qdb⟩⟩⟩⟩⟩)
  rintro⟨b4_0,b4_1,b4_2⟩ rfl;dsimp only at j18;rw[congrFun hT22 (b4_0,b4_1,b4_2)];refine zaa ?_;obtain⟨x24,g25,j18⟩:=bind_some j18;try simp only[rnA,Nat.reduceEqDiff,Nat.reduceLT,zao (n:=1) (e:=(eI .i64)) rfl g25]
  obtain⟨y26,g27,j18⟩:=bind_some j18;refine EvL.zl2 (S':=⟨187,[(1,(.ptr 0 0)),(2,(.ptr 1 0)),(3,(dI (zdf (zdd (p0.nodes.length:Int) 1) 5))),(4,(.ptr 3 0)),(5,(fzE true (eI .i64) r5)),(10,(dI v10)),(11,(.ptr 4 0)),(12,(dI x24)),(13,(dI 0))],[.cells [(dU8 p0.grain),(fzE false zaj p0.nodes),(fzE false (eI .u8) p0.order)],.cells [(dI 0),zaU],.els 3 (l2'.map (zaf.c true)),.cells [(dI (w64 (1+(w64 (p0.grain.tmod 60))))),(.sl 2 0 3 (Int.toNat (zdf (zdd (p0.nodes.length:Int) 1) 5)) (some (Int.toNat (zdf (zdd (p0.nodes.length:Int) 1) 5))) (Int.toNat (zdf (zdd (p0.nodes.length:Int) 1) 5)))],.cells [(dU8 b4_0),(dU8 b4_1),(fzE false (eI .u8) b4_2)]]⟩) (wm0 [.k,.k,.k,.k,.k] ⟨MB.cs ⟨qdb,qdb,qdb,qdb⟩,⟨MB.cs ⟨qdb,qdb,qdb⟩,⟨MB.es zaf true l2',⟨MB.cs ⟨qdb,rfl,qdb⟩,⟨MB.cs ⟨qdb,qdb,qdb,qdb⟩,qdb⟩⟩⟩⟩⟩) ?_;refine zzj g27 (fun kp=>⟨qdb,qdb,qdb,qdb⟩) (fun kp=>⟨qdb,qdb,qdb⟩) (fun kp=>trivial) (fun kp=>trivial) el2' (zaa ?_);try simp only[rnA,Nat.reduceLT]
  obtain⟨y28,g29,j18⟩:=bind_some j18;refine EvL.zl2 (S':=⟨187,[(1,(.ptr 0 0)),(2,(.ptr 1 0)),(3,(dI (zdf (zdd (p0.nodes.length:Int) 1) 5))),(4,(.ptr 3 0)),(5,(fzE true (eI .i64) r5)),(10,(dI v10)),(11,(.ptr 4 0)),(12,(dI x24)),(15,(dI 0))],[.cells [(dU8 p0.grain),(fzE false zaj p0.nodes),(fzE false (eI .u8) p0.order)],.cells [(dI 0),zaU],.els 3 (y26.map (zaf.c true)),.cells [(dI (w64 (1+(w64 (p0.grain.tmod 60))))),(.sl 2 0 3 (Int.toNat (zdf (zdd (p0.nodes.length:Int) 1) 5)) (some (Int.toNat (zdf (zdd (p0.nodes.length:Int) 1) 5))) (Int.toNat (zdf (zdd (p0.nodes.length:Int) 1) 5)))],.cells [(dU8 b4_0),(dU8 b4_1),(fzE false (eI .u8) b4_2)]]⟩) (wm0 [.k,.k,.k,.k,.k] ⟨MB.cs ⟨qdb,qdb,qdb,qdb⟩,⟨MB.cs ⟨qdb,qdb,qdb⟩,⟨MB.es zaf true y26,⟨MB.cs ⟨qdb,rfl,qdb⟩,⟨MB.cs ⟨qdb,qdb,qdb,qdb⟩,qdb⟩⟩⟩⟩⟩) ?_;refine zy6 g29 (fun kp=>⟨qdb,qdb,qdb,qdb⟩) (fun kp=>⟨qdb,qdb,qdb⟩) (fun kp=>trivial) (fun kp=>trivial) ((zjj g27).trans el2') (zaa ?_);try simp only[rnA,Nat.reduceEqDiff,Nat.reduceLT]
  exact⟨((w64 (v10+1)),y28),⟨j18,((zpS g29).trans ((zjj g27).trans el2'))⟩,by rw[hT21]; exact wm0 [.k,.k,.k,.k] ⟨MB.cs ⟨qdb,qdb,qdb,qdb⟩,⟨MB.cs ⟨qdb,qdb,qdb⟩,⟨MB.es zaf true y28,⟨MB.cs ⟨qdb,rfl,qdb⟩,qdb⟩⟩⟩⟩⟩
 rintro l2' ⟨rfl,el2'⟩;rw[congrFun hT18 l2'];refine zaa ?_;try simp only[rnA,Nat.reduceEqDiff,Nat.reduceLT,Nat.reduceAdd,Nat.reduceLeDiff]
 replace h:=qac h; subst h;exact zcr.ret rfl (.zd9 (.cons (.lit _) (.cons (zpf (e:=zab) rfl (.inl rfl) (by rw[qaB]; exact(el2').symm) (by rw[qaB]; exact(el2').symm) (fun k h=>by cases h; exact qal _) (ziH (fun _=>rfl) l2')) .nil)))
def zbO(p0:S_factor_table)(p1:S_factor_table):Nat→Int→Option (Out Unit Bool)
 | 0,_=>none
 | n+1,v12=>(
bif (decide (v12<(p0.factor.vars.length:Int)))then(
(zaZ p0.factor.vars v12).bind fun x2=>
(zaH p1 x2).bind fun r4=>
((bif (decide (0≤r4))then(
(zaZ p1.factor.zad r4).bind fun x7=>
(zaZ p0.factor.zad v12).bind fun x9=>
some (!(x7 == x9)))
else(
some false):Option Bool)).bind fun v36=>
bif v36 then(
some (.ret false))
else(
zbO p0 p1 n (w64 (v12+1))))
else(
some (.go ())))
def zcy(p0:S_factor_table)(p1:S_factor_table):Option Bool:=
((zbO p0 p1 ((p0.factor.vars.length:Int) - 0+2:Int).toNat 0:Option (Out Unit Bool))).bind fun o=>match o with
| .go _=>(
some true)
| .ret r=>some r
def zf0:C:=
 .seq (rg [oW 2 0,
 oW 3 1,
 oJ 4 false])
 (.seq (.seq (rg [oF 8 0 2,
 oF 9 0 8,
 oL 10 9,
 oE 11 10,
 oK 12 0])
 (.scope (.block 0 (.loop (.seq (rg [oB 13 .lss 12 11])
 (.seq (.cond (.s 13) (.skip)
 (.exit 0))
 (.seq (.block 1 (.seq (rg [oM 14 12,
 oI 15 1 10 12,
 oL 16 15,
 oM 5 14,
 oM 6 16])
 (.seq (rg [oN 17 4 3,
 oM 18 6,
 oV 19 96 17 18,
 oM 7 19])
 (.seq (.scope (.reg true false [oM 20 7,
 oD 21 .geq 20 0,
 oM 22 21,
 oFg 23 0 3 22 true,
 oFg 24 1 23 22 true,
 oLg 25 24 22 true,
 oMg 26 7 22 true,
 ⟨some 27,.idxS 1 (.s 25) (.s 26),some (22,true)⟩,
 oLg 28 27 22 true,
 oFg 29 0 2 22 true,
 oFg 30 1 29 22 true,
 oLg 31 30 22 true,
 oMg 32 5 22 true,
 ⟨some 33,.idxS 1 (.s 31) (.s 32),some (22,true)⟩,
 oLg 34 33 22 true,
 ⟨some 35,.bin .neq (.s 28) (.s 34),some (22,true)⟩,
 ⟨some 36,.pick (.s 22) (.s 35) (.c (.bool false)),none⟩]))
 (.cond (.s 36) (.seq (rg [oJ 4 false])
 (.ret))
 (.skip))))))
 (rg [oD 37 .add 12 1,
 oM 12 37]))))))))
 (.seq (rg [oJ 4 true])
 (.ret)))
theorem zhD:ziU mC 90=some (38,zf0,[.tmp 4],false):=zbu (by kernel_rfl)
theorem zio{p0:S_factor_table}{p1:S_factor_table}{r:Bool}(h:zcy p0 p1=some r):Lx.Fn mC 90 [(.agg [(fzE false (eI .i64) p0.factor.vars),(fzE false (eI .i64) p0.factor.zad),(fzE false (eI .i64) p0.factor.w),(fzE false (eI .i64) p0.steps)]),(.agg [(fzE false (eI .i64) p1.factor.vars),(fzE false (eI .i64) p1.factor.zad),(fzE false (eI .i64) p1.factor.w),(fzE false (eI .i64) p1.steps)])] (dB r):=by
 refine Fn.of zhD (zbo rfl) (qaf rfl) ?_;unfold zcy at h;simp only[zf0,zjR];refine zaa ?_;try simp only[rnA,Nat.reduceEqDiff,Nat.reduceLT,Nat.reduceAdd,reduceCtorEq,zat]
 obtain⟨o4,j4,h⟩:=bind_some h;obtain⟨T4,hT4⟩:=mkT fun a:Unit=>⟨38,[],[]⟩
 refine EvL.jn T4 (fun a=>o4=.go a) ?_ ?_
 ·refine zaa ?_;simp only[rnA];obtain⟨T7,hT7⟩:=mkT fun a:Int=>⟨38,[(2,(.ptr 0 0)),(3,(.ptr 1 0)),(10,(fzE false (eI .i64) p0.factor.vars)),(11,(dI (p0.factor.vars.length:Int))),(12,(dI a))],[.cells [(fzE false (eI .i64) p0.factor.vars),(fzE false (eI .i64) p0.factor.zad),(fzE false (eI .i64) p0.factor.w),(fzE false (eI .i64) p0.steps)],.cells [(fzE false (eI .i64) p1.factor.vars),(fzE false (eI .i64) p1.factor.zad),(fzE false (eI .i64) p1.factor.w),(fzE false (eI .i64) p1.steps)]]⟩
  refine EvL.rounds (α:=Int) T7 (fun n a=>zbO p0 p1 n a=some o4) ((p0.factor.vars.length:Int) - 0+2:Int).toNat 0 (by rw[hT7]; exact wm0 [.k,.k] ⟨MB.cs ⟨qdb,qdb,qdb,qdb,qdb⟩,⟨MB.cs ⟨qdb,qdb,qdb,qdb,qdb⟩,qdb⟩⟩) j4 (fun _ h=>nomatch (show(none:Option (Out Unit Bool))=some o4 from h)) ?_;rintro n v12 j4;simp only[zbO]at j4;rw[congrFun hT7 v12];refine zaa ?_;try simp only[rnA,Nat.reduceEqDiff,Nat.reduceLT]
  cases c1:(decide (v12<(p0.factor.vars.length:Int)))
  ·rw[c1,cond_false]at j4;try simp only[rnA]
   replace j4:=qac j4; subst j4;exact lfj hT4 rfl (wm0 [] (by exact trivial))
  rw[c1,cond_true]at j4;obtain⟨x2,g3,j4⟩:=bind_some j4;obtain⟨r4,g5,j4⟩:=bind_some j4;try simp only[rnA,Nat.reduceEqDiff,Nat.reduceLT,Nat.reduceAdd,Nat.reduceLeDiff,zao (n:=1) (e:=(eI .i64)) rfl g3]
  refine EvL.fn (zbG g5) rfl rfl (.cons (.zd9 (.cons (zah _ _ (fun h=>nomatch h)) (.cons (zah _ _ (fun h=>nomatch h)) (.cons (zah _ _ (fun h=>nomatch h)) (.cons (zah _ _ (fun h=>nomatch h)) .nil))))) (.cons (.lit _) .nil)) ?_;try simp only[rnA,Nat.reduceEqDiff,Nat.reduceLT]
  obtain⟨o8,j8,j4⟩:=bind_some j4;obtain⟨T8,hT8⟩:=mkT fun a:Bool=>⟨38,[(2,(.ptr 0 0)),(3,(.ptr 1 0)),(10,(fzE false (eI .i64) p0.factor.vars)),(11,(dI (p0.factor.vars.length:Int))),(12,(dI v12)),(36,(dB a))],[.cells [(fzE false (eI .i64) p0.factor.vars),(fzE false (eI .i64) p0.factor.zad),(fzE false (eI .i64) p0.factor.w),(fzE false (eI .i64) p0.steps)],.cells [(fzE false (eI .i64) p1.factor.vars),(fzE false (eI .i64) p1.factor.zad),(fzE false (eI .i64) p1.factor.w),(fzE false (eI .i64) p1.steps)]]⟩
  refine EvL.jn T8 (fun a=>a=o8) ?_ ?_
  ·refine zaa ?_;try simp only[rnA,Nat.reduceEqDiff,Nat.reduceLT]
   cases c6:(decide (0≤r4))
   ·rw[c6,cond_false]at j8;try simp only[rnA,Nat.reduceEqDiff,Nat.reduceLT]
    replace j8:=qac j8; subst j8;exact lfj hT8 rfl (wm0 [.k,.k] ⟨MB.cs ⟨qdb,qdb,qdb,qdb,qdb⟩,⟨MB.cs ⟨qdb,qdb,qdb,qdb,qdb⟩,qdb⟩⟩)
   rw[c6,cond_true]at j8;obtain⟨x7,g8,j8⟩:=bind_some j8;obtain⟨x9,g10,j8⟩:=bind_some j8;try simp only[rnA,Nat.reduceEqDiff,Nat.reduceLT,zao (n:=1) (e:=(eI .i64)) rfl g8,zao (n:=1) (e:=(eI .i64)) rfl g10]
   replace j8:=qac j8; subst j8;exact lfj hT8 rfl (wm0 [.k,.k] ⟨MB.cs ⟨qdb,qdb,qdb,qdb,qdb⟩,⟨MB.cs ⟨qdb,qdb,qdb,qdb,qdb⟩,qdb⟩⟩)
  rintro v36 rfl;rw[congrFun hT8 v36];refine zaa ?_;try simp only[rnA,Nat.reduceEqDiff]
  cases c11:v36
  ·rw[c11,cond_false]at j4;try simp only[rnA,Nat.reduceEqDiff,Nat.reduceLT]
   exact⟨(w64 (v12+1)),j4,by rw[hT7]; exact wm0 [.k,.k] ⟨MB.cs ⟨qdb,qdb,qdb,qdb,qdb⟩,⟨MB.cs ⟨qdb,qdb,qdb,qdb,qdb⟩,qdb⟩⟩⟩
  rw[c11,cond_true]at j4;try simp only[rnA,Nat.reduceLT]
  replace j4:=qac j4; subst j4;dsimp only at h;replace h:=qac h; subst h;exact zcr.ret rfl (.lit _)
 rintro⟨⟩ rfl;dsimp only at h;rw[congrFun hT4 ()];refine zaa ?_;try simp only[rnA,Nat.reduceLT]
 replace h:=qac h; subst h;exact zcr.ret rfl (.lit _)
def zaX(p1:(List Int))(p0:S_factor_table):Nat→Int→(List Int)→Option (List Int)
 | 0,_,_=>none
 | n+1,v14,l1=>(
bif (decide (v14<(p1.length:Int)))then(
(zaZ p1 v14).bind fun x4=>
(zaH p0 x4).bind fun r6=>
((bif (decide (0≤r6))then(
(zaZ p0.steps r6).bind fun x9=>
(zaZ l1 v14).bind fun x11=>
(zfu l1 v14 x9).bind fun y13=>
some y13)
else(
some l1):Option (List Int))).bind fun l1'=>
zaX p1 p0 n (w64 (v14+1)) l1')
else(
some l1))
def za5(p0:S_factor_table)(p1:(List Int)):Option (List Int):=
(zet 8 (p1.length:Int) 0).bind fun y1=>
((zaX p1 p0 ((p1.length:Int) - 0+2:Int).toNat 0 y1:Option (List Int))).bind fun l1=>
some l1
theorem zdt{p0:S_factor_table}{p1:(List Int)}{r:(List Int)}(h:za5 p0 p1=some r):Lx.Fn mC 94 [(.agg [(fzE false (eI .i64) p0.factor.vars),(fzE false (eI .i64) p0.factor.zad),(fzE false (eI .i64) p0.factor.w),(fzE false (eI .i64) p0.steps)]),(fzE false (eI .i64) p1)] (fzE true (eI .i64) r):=by
 refine fnO (by conv=>lhs; cbv) ?_;unfold za5 at h;refine zaa ?_;obtain⟨y1,g2,h⟩:=bind_some h;try simp only[rnA,Nat.reduceEqDiff,Nat.reduceLT,Nat.reduceAdd,reduceCtorEq,zat,(zaC g2).1.1,(zaC g2).1.2,qbU,(show List.replicate (Int.toNat (p1.length:Int)) [(dI 0)]=y1.map ((eI .i64).c true)from zb2 g2 ((eI .i64).c true))]
 obtain⟨o4,j4,h⟩:=bind_some h;obtain⟨T4,hT4⟩:=mkT fun a:(List Int)=>⟨34,[(5,(.sl 1 0 1 (Int.toNat (p1.length:Int)) (some (Int.toNat (p1.length:Int))) (Int.toNat (p1.length:Int))))],[.gone,.els 1 (a.map ((eI .i64).c true))]⟩
 refine EvL.jn T4 (fun a=>a=o4∧a.length=(Int.toNat (p1.length:Int))) ?_ ?_
 ·refine zaa ?_;simp only[rnA];obtain⟨T7,hT7⟩:=mkT fun a:(Int×(List Int))=>⟨34,[(2,(.ptr 0 0)),(5,(.sl 1 0 1 (Int.toNat (p1.length:Int)) (some (Int.toNat (p1.length:Int))) (Int.toNat (p1.length:Int)))),(12,(fzE false (eI .i64) p1)),(13,(dI (p1.length:Int))),(14,(dI a.1))],[.cells [(fzE false (eI .i64) p0.factor.vars),(fzE false (eI .i64) p0.factor.zad),(fzE false (eI .i64) p0.factor.w),(fzE false (eI .i64) p0.steps)],.els 1 (a.2.map ((eI .i64).c true))]⟩
  refine EvL.rounds (α:=(Int×(List Int))) T7 (fun n a=>zaX p1 p0 n a.1 a.2=some o4∧a.2.length=(Int.toNat (p1.length:Int))) ((p1.length:Int) - 0+2:Int).toNat (0,y1) (by rw[hT7]; exact wm0 [.k,.k] ⟨MB.cs ⟨qdb,qdb,qdb,qdb,qdb⟩,⟨MB.es (eI .i64) true y1,qdb⟩⟩) ⟨j4,zby g2⟩ (fun _ h=>nomatch (show(none:Option (List Int))=some o4 from h.1)) ?_;rintro n ⟨v14,l1⟩ ⟨j4,el1⟩;simp only[zaX]at j4;rw[congrFun hT7 (v14,l1)];refine zaa ?_;try simp only[rnA,Nat.reduceEqDiff,Nat.reduceLT]
  cases c3:(decide (v14<(p1.length:Int)))
  ·rw[c3,cond_false]at j4;try simp only[rnA]
   replace j4:=qac j4; subst j4;exact⟨_,⟨rfl,el1⟩,by rw[hT4]; exact wm0 [.d,.k] ⟨rfl,⟨MB.es (eI .i64) true l1,qdb⟩⟩⟩
  rw[c3,cond_true]at j4;obtain⟨x4,g5,j4⟩:=bind_some j4;obtain⟨r6,g7,j4⟩:=bind_some j4;try simp only[rnA,Nat.reduceEqDiff,Nat.reduceLT,Nat.reduceAdd,Nat.reduceLeDiff,zao (n:=1) (e:=(eI .i64)) rfl g5]
  refine EvL.fn (zbG g7) rfl rfl (.cons (.zd9 (.cons (zah _ _ (fun h=>nomatch h)) (.cons (zah _ _ (fun h=>nomatch h)) (.cons (zah _ _ (fun h=>nomatch h)) (.cons (zah _ _ (fun h=>nomatch h)) .nil))))) (.cons (.lit _) .nil)) ?_;try simp only[rnA,Nat.reduceEqDiff,Nat.reduceLT]
  obtain⟨o8,j8,j4⟩:=bind_some j4;obtain⟨T8,hT8⟩:=mkT fun a:(List Int)=>⟨34,[(2,(.ptr 0 0)),(5,(.sl 1 0 1 (Int.toNat (p1.length:Int)) (some (Int.toNat (p1.length:Int))) (Int.toNat (p1.length:Int)))),(12,(fzE false (eI .i64) p1)),(13,(dI (p1.length:Int))),(14,(dI v14))],[.cells [(fzE false (eI .i64) p0.factor.vars),(fzE false (eI .i64) p0.factor.zad),(fzE false (eI .i64) p0.factor.w),(fzE false (eI .i64) p0.steps)],.els 1 (a.map ((eI .i64).c true))]⟩
  refine EvL.jn T8 (fun a=>a=o8∧a.length=(Int.toNat (p1.length:Int))) ?_ ?_
  ·refine zaa ?_;try simp only[rnA,Nat.reduceEqDiff]
   cases c8:(decide (0≤r6))
   ·rw[c8,cond_false]at j8;try simp only[rnA]
    replace j8:=qac j8; subst j8;exact⟨_,⟨rfl,el1⟩,by rw[hT8]; exact wm0 [.k,.k] ⟨MB.cs ⟨qdb,qdb,qdb,qdb,qdb⟩,⟨MB.es (eI .i64) true l1,qdb⟩⟩⟩
   rw[c8,cond_true]at j8;obtain⟨x9,g10,j8⟩:=bind_some j8;obtain⟨x11,g12,j8⟩:=bind_some j8;obtain⟨y13,g14,j8⟩:=bind_some j8;try simp only[rnA,Nat.reduceEqDiff,Nat.reduceLT,Nat.reduceLeDiff,zao (n:=1) (e:=(eI .i64)) rfl g10,el1,zbl g12,(show v14<(((Int.toNat (p1.length:Int)):Nat):Int)from el1 ▸ zbm g12),zaR g12 ((eI .i64).c true),(show(l1.map ((eI .i64).c true)).set v14.toNat [(dI x9)]=y13.map ((eI .i64).c true)from zbs g14 ((eI .i64).c true))]
   replace j8:=qac j8; subst j8;exact⟨_,⟨rfl,(zbg g14).trans el1⟩,by rw[hT8]; exact wm0 [.k,.k] ⟨MB.cs ⟨qdb,qdb,qdb,qdb,qdb⟩,⟨MB.es (eI .i64) true y13,qdb⟩⟩⟩
  rintro l1' ⟨rfl,el1'⟩;rw[congrFun hT8 l1'];refine zaa ?_;try simp only[rnA,Nat.reduceEqDiff,Nat.reduceLT]
  exact⟨((w64 (v14+1)),l1'),⟨j4,el1'⟩,by rw[hT7]; exact wm0 [.k,.k] ⟨MB.cs ⟨qdb,qdb,qdb,qdb,qdb⟩,⟨MB.es (eI .i64) true l1',qdb⟩⟩⟩
 rintro l1 ⟨rfl,el1⟩;rw[congrFun hT4 l1];refine zaa ?_;try simp only[rnA,Nat.reduceEqDiff,Nat.reduceLT]
 replace h:=qac h; subst h;exact zcr.ret rfl (zbD (e:=(eI .i64)) (t:=true) rfl (.inl rfl) (el1).symm (el1).symm (fun k h=>by cases h; exact qal _) (fun _=>rfl))
end Go.Dc
