/-
 What r05_Draft_Net computes. Conditions: none.
-/
import Derived.Test.YtbjogdohfhdaiaaCfJ4
set_option linter.unusedSimpArgs false
set_option linter.unusedVariables false
set_option maxRecDepth 100000
set_option maxHeartbeats 4000000
set_option maxHeartbeats 8000000
namespace Go.Dc
open Go Go.Mx Go.Lx Go.Proofs
def zbb(p0:S_haruspexref05_Draft)(r5:(List Int)):Nat->Int->Int->(List S_api_Node)->Option (List S_api_Node)
 | 0,_,_,_=>none
 | n+1,v6,v7,l2=>(
bif (decide (v7<(zfN (zf8 (p0.nodes.length:Int) 1) 5)))then(
((bif (decide (v7<(p0.nodes.length:Int)))then(
(zaC p0.nodes v7).bind λx9=>
some (x9.card,x9.parents,x9.w))
else(
some (0,0,[])):Option ((Int×Int×(List Int))))).bind λo=>match o with
|(b4_0,b4_1,b4_2)=>(
(zo9 .i64 (w64 (v6 * (w64 (2+(w64 (b4_0.tmod 2)))))) (IntKind.u64.wrap (w64 ((w64 ((zfN (zf8 (p0.nodes.length:Int) 1) 5) - 1)) - v7)))).bind λq11=>
((bif (decide (100<q11))then(
some 2)
else(
some (w64 (2+(w64 (b4_0.tmod 2))))):Option Int)).bind λv9=>
(zaC r5 v7).bind λx14=>
(zaC l2 x14).bind λx16=>
(zd2 l2 x14 (S_api_Node.mk v9 x16.parents x16.rows)).bind λy18=>
zbb p0 r5 n (w64 (v6 * v9)) (w64 (v7+1)) y18))
else(
some l2))
def zbr(N:Nat)(p0:S_haruspexref05_Draft)(r5:(List Int)):Nat->Int->(List S_api_Node)->Option (List S_api_Node)
 | 0,_,_=>none
 | n+1,v10,l2'=>(
bif (decide (v10<(zfN (zf8 (p0.nodes.length:Int) 1) 5)))then(
((bif (decide (v10<(p0.nodes.length:Int)))then(
(zaC p0.nodes v10).bind λx22=>
some (x22.card,x22.parents,x22.w))
else(
some (0,0,[])):Option ((Int×Int×(List Int))))).bind λo=>match o with
|(b4_0,b4_1,b4_2)=>(
(zaC r5 v10).bind λx24=>
(zov r5 v10 x24 (zfN (zf8 (p0.nodes.length:Int) 1) 5) b4_1 l2').bind λy26=>
(znS N (w64 (1+(w64 (p0.grain.tmod 60)))) x24 b4_2 y26).bind λy28=>
zbr N p0 r5 n (w64 (v10+1)) y28))
else(
some l2'))
def zbH(N:Nat)(p0:S_haruspexref05_Draft):Option S_api_Net:=
(zd5 56 (zfN (zf8 (p0.nodes.length:Int) 1) 5) (S_api_Node.mk 0 [] [])).bind λy1=>
(zd5 1 (zfN (zf8 (p0.nodes.length:Int) 1) 5) 0).bind λy3=>
(zaV N (S_haruspexref02_Draft.mk y3 0 p0.order)).bind λr5=>
((zbb p0 r5 ((zfN (zf8 (p0.nodes.length:Int) 1) 5) - 0+2:Int).toNat 1 0 y1:Option (List S_api_Node))).bind λl2=>
((zbr N p0 r5 ((zfN (zf8 (p0.nodes.length:Int) 1) 5) - 0+2:Int).toNat 0 l2:Option (List S_api_Node))).bind λl2'=>
some (S_api_Net.mk (w64 (1+(w64 (p0.grain.tmod 60)))) l2')
def zfa:C:=
 .seq (rg [oW 1 0,
 ⟨some 2,.alloc [(.int .i64 0),(.slice none 0 0)],none⟩])
 (.seq (rg [oF 16 1 1,
 oL 17 16,
 oE 18 17,
 ⟨some 19,.mm true [(.s 18),(.c (.int .i64 1))],none⟩,
 ⟨some 20,.mm false [(.s 19),(.c (.int .i64 5))],none⟩,
 oM 3 20])
 (.seq (.reg true false [oF 21 0 1,
 oL 22 21,
 ⟨some 23,.bin .rem (.s 22) (.c (.int .u8 60)),none⟩,
 ⟨some 24,.conv .i64 (.s 23),none⟩,
 ⟨some 25,.bin .add (.c (.int .i64 1)) (.s 24),none⟩,
 oM 26 3,
 ⟨some 27,.mk 3 56 [(.int .i64 0),(.slice none 0 0),(.slice none 0 0)] (.s 26) (.s 26),none⟩,
 ⟨some 28,.build [(.int .i64 0),(.slice none 0 0)] [(0,1,(.s 25)),(1,1,(.s 27))],none⟩,
 ⟨some 4,.alloc [(.int .i64 0),(.slice none 0 0)],none⟩,
 oS 2 4 28])
 (.seq (.reg true false [oM 29 3,
 oF 31 2 1,
 oL 32 31,
 ⟨some 30,.mk 1 1 [(.int .u8 0)] (.s 29) (.s 29),none⟩,
 ⟨some 33,.build [(.slice none 0 0),(.int .u16 0),(.slice none 0 0)] [(0,1,(.s 30)),(2,1,(.s 32))],none⟩,
 oU 34 66 33,
 oM 5 34])
 (.seq (rg [oK 6 1])
 (.seq (.seq (rg [oK 7 0])
 (.scope (.block 0 (.loop (.seq (.seq (rg [oM 35 7,
 oM 36 3,
 oB 37 .lss 35 36])
 (.cond (.s 37) (.skip)
 (.exit 0)))
 (.seq (.block 1 (.seq (rg [⟨some 8,.alloc [(.int .u8 0),(.int .u8 0),(.slice none 0 0)],none⟩])
 (.seq (.seq (rg [oM 40 7,
 oF 41 1 1,
 oL 42 41,
 oE 43 42,
 oB 44 .lss 40 43])
 (.scope (.cond (.s 44) (rg [oF 45 1 1,
 oL 46 45,
 oM 47 7,
 oI 48 3 46 47,
 oN 49 3 48,
 oS 3 8 49])
 (.skip))))
 (.seq (rg [oF 50 0 8,
 oL 51 50,
 ⟨some 52,.bin .rem (.s 51) (.c (.int .u8 2)),none⟩,
 ⟨some 53,.conv .i64 (.s 52),none⟩,
 ⟨some 54,.bin .add (.c (.int .i64 2)) (.s 53),none⟩,
 oM 9 54])
 (.seq (.seq (rg [oM 55 6,
 oM 56 9,
 oB 57 .mul 55 56,
 oM 58 3,
 oD 59 .sub 58 1,
 oM 60 7,
 oB 61 .sub 59 60,
 ⟨some 62,.conv .u64 (.s 61),none⟩,
 oB 63 .shl 57 62,
 oD 64 .gtr 63 100])
 (.scope (.cond (.s 64) (rg [oK 9 2])
 (.skip))))
 (.seq (rg [oM 65 6,
 oM 66 9,
 oB 67 .mul 65 66,
 oM 6 67])
 (.reg true false [oF 68 1 4,
 oL 69 68,
 oM 70 5,
 oM 71 7,
 oI 72 1 70 71,
 oL 73 72,
 oM 74 9,
 oI 75 3 69 73,
 oF 76 0 75,
 oS 1 76 74])))))))
 (rg [oM 38 7,
 oD 39 .add 38 1,
 oM 7 39])))))))
 (.seq (.seq (rg [oK 10 0])
 (.scope (.block 2 (.loop (.seq (.seq (rg [oM 77 10,
 oM 78 3,
 oB 79 .lss 77 78])
 (.cond (.s 79) (.skip)
 (.exit 2)))
 (.seq (.block 3 (.seq (rg [⟨some 11,.alloc [(.int .u8 0),(.int .u8 0),(.slice none 0 0)],none⟩])
 (.seq (.seq (rg [oM 82 10,
 oF 83 1 1,
 oL 84 83,
 oE 85 84,
 oB 86 .lss 82 85])
 (.scope (.cond (.s 86) (rg [oF 87 1 1,
 oL 88 87,
 oM 89 10,
 oI 90 3 88 89,
 oN 91 3 90,
 oS 3 11 91])
 (.skip))))
 (.seq (rg [oM 92 5,
 oM 93 10,
 oI 94 1 92 93,
 oL 95 94,
 oM 12 95])
 (.seq (.seq (rg [oK 13 0])
 (.scope (.block 4 (.loop (.seq (.seq (rg [oM 96 13,
 oM 97 3,
 oB 98 .lss 96 97])
 (.cond (.s 98) (.skip)
 (.exit 4)))
 (.seq (.block 5 (.seq (rg [oK 14 0])
 (.scope (.block 6 (.loop (.seq (.seq (rg [oM 101 14,
 oM 102 10,
 oB 103 .lss 101 102])
 (.cond (.s 103) (.skip)
 (.exit 6)))
 (.seq (.block 7 (.seq (.scope (rg [oM 106 5,
 oM 107 14,
 oI 108 1 106 107,
 oL 109 108,
 oM 110 13,
 oB 111 .eql 109 110,
 oM 112 111,
 oFg 113 1 11 112 true,
 oLg 114 113 112 true,
 oMg 115 14 112 true,
 ⟨some 116,.conv .u64 (.s 115),some (112,true)⟩,
 ⟨some 117,.bin .shr (.s 114) (.s 116),some (112,true)⟩,
 ⟨some 118,.bin .and (.s 117) (.c (.int .u8 1)),some (112,true)⟩,
 ⟨some 119,.bin .eql (.s 118) (.c (.int .u8 1)),some (112,true)⟩,
 ⟨some 120,.pick (.s 112) (.s 119) (.c (.bool false)),none⟩,
 oM 121 120,
 oFg 122 1 4 121 true,
 oLg 123 122 121 true,
 oMg 124 12 121 true,
 ⟨some 125,.idxS 3 (.s 123) (.s 124),some (121,true)⟩,
 oFg 126 1 125 121 true,
 oLg 127 126 121 true,
 ⟨some 128,.len (.s 127),some (121,true)⟩,
 oDg 129 .lss 128 3 121 true,
 ⟨some 130,.pick (.s 121) (.s 129) (.c (.bool false)),none⟩]))
 (.scope (.cond (.s 130) (.reg true false [oF 131 1 4,
 oL 132 131,
 oM 133 12,
 oF 134 1 4,
 oL 135 134,
 oM 136 12,
 oI 137 3 135 136,
 oF 138 1 137,
 oL 139 138,
 oM 140 13,
 ⟨some 141,.bsl 1 1 [(.int .i64 0)] [(0,(.s 140))],none⟩,
 ⟨none,.avo [(.s 131)] (.s 139),none⟩,
 oT 142 1 8 139 141,
 oI 143 3 132 133,
 oF 144 1 143,
 oS 1 144 142])
 (.skip)))))
 (rg [oM 104 14,
 oD 105 .add 104 1,
 oM 14 105]))))))))
 (rg [oM 99 13,
 oD 100 .add 99 1,
 oM 13 100])))))))
 (.seq (rg [oK 15 0])
 (.scope (.block 8 (.loop (.seq (.seq (rg [oM 145 15,
 oN 146 2 4,
 oM 147 12,
 oV 148 68 146 147,
 oU 149 67 148,
 oB 150 .lss 145 149])
 (.cond (.s 150) (.skip)
 (.exit 8)))
 (.seq (.block 9 (.reg true true [oF 153 1 4,
 oL 154 153,
 oM 155 12,
 oF 156 1 4,
 oL 157 156,
 oM 158 12,
 oI 159 3 157 158,
 oF 160 2 159,
 oL 161 160,
 oF 162 0 4,
 oL 163 162,
 oF 164 1 4,
 oL 165 164,
 oM 166 12,
 oI 167 3 165 166,
 oF 168 0 167,
 oL 169 168,
 oF 170 2 11,
 oL 171 170,
 oM 172 15,
 oF 173 1 4,
 oL 174 173,
 oM 175 12,
 oI 176 3 174 175,
 oF 177 0 176,
 oL 178 177,
 oD 179 .add 178 1,
 oB 180 .mul 172 179,
 ⟨some 181,.call 69 [(.s 163),(.s 169),(.s 171),(.s 180)],none⟩,
 ⟨some 182,.bsl 1 1 [(.slice none 0 0)] [(0,(.s 181))],none⟩,
 ⟨none,.avo [(.s 153)] (.s 161),none⟩,
 oT 183 1 24 161 182,
 oI 184 3 154 155,
 oF 185 2 184,
 oS 1 185 183]))
 (rg [oM 151 15,
 oD 152 .add 151 1,
 oM 15 152]))))))))))))
 (rg [oM 80 10,
 oD 81 .add 80 1,
 oM 10 81])))))))
 (.seq (rg [oN 186 2 4,
 oS 2 2 186])
 (.ret))))))))
theorem zhk:zlG mC 22=some (187,zfa,[.cell 2 (some 2)],false):=zcr (by kernel_rfl)
theorem zhM{N:Nat}{p0:S_haruspexref05_Draft}{r:S_api_Net}(h:zbH N p0=some r):Lx.Fn mC 22 [(.agg [(dU8 p0.grain),(fzE false zan p0.nodes),(fzE false (eI .u8) p0.order)])] (.agg [(dI r.grain),(fzE true zad r.nodes)]):=by
 refine Fn.of zhk (zbG rfl) (qah rfl) ?_;unfold zbH at h;simp only[zfa,zqj];refine zab ?_;obtain⟨y1,g2,h⟩:=bsM h;obtain⟨y3,g4,h⟩:=bsM h;obtain⟨r5,g6,h⟩:=bsM h;refine ziz ((zaK g2).1.1) ((zaK g2).1.2) @qbC (show List.replicate (Int.toNat (zfN (zf8 (p0.nodes.length:Int) 1) 5)) [(dI 0),zfy,zfy]=y1.map (zai.c true)from zcR g2 (zai.c true)) ((zaK g4).1.2) (mbM g4) ?_;refine fCM (zeu g6) ?_;obtain⟨o7,j7,h⟩:=bsM h;obtain⟨T7,hT7⟩:=mkT λa:(List S_api_Node)=>⟨187,[(1,(.ptr 0 0)),(2,(.ptr 1 0)),(3,(dI (zfN (zf8 (p0.nodes.length:Int) 1) 5))),(4,(.ptr 3 0)),(5,(fzE true (eI .i64) r5))],[.cells [(dU8 p0.grain),(fzE false zan p0.nodes),(fzE false (eI .u8) p0.order)],.cells [(dI 0),zfy],.els 3 (a.map (zai.c true)),.cells [(dI (w64 (1+(w64 (p0.grain.tmod 60))))),(.sl 2 0 3 (Int.toNat (zfN (zf8 (p0.nodes.length:Int) 1) 5)) (some (Int.toNat (zfN (zf8 (p0.nodes.length:Int) 1) 5))) (Int.toNat (zfN (zf8 (p0.nodes.length:Int) 1) 5)))]]⟩
 refine EvL.jn T7 (λa=>a=o7/\a.length=(Int.toNat (zfN (zf8 (p0.nodes.length:Int) 1) 5))) ?_ ?_
 .refine wSM ?_;obtain⟨T12,hT12⟩:=mkT λa:(Int×Int×(List S_api_Node))=>⟨187,[(1,(.ptr 0 0)),(2,(.ptr 1 0)),(3,(dI (zfN (zf8 (p0.nodes.length:Int) 1) 5))),(4,(.ptr 3 0)),(5,(fzE true (eI .i64) r5)),(6,(dI a.1)),(7,(dI a.2.1))],[.cells [(dU8 p0.grain),(fzE false zan p0.nodes),(fzE false (eI .u8) p0.order)],.cells [(dI 0),zfy],.els 3 (a.2.2.map (zai.c true)),.cells [(dI (w64 (1+(w64 (p0.grain.tmod 60))))),(.sl 2 0 3 (Int.toNat (zfN (zf8 (p0.nodes.length:Int) 1) 5)) (some (Int.toNat (zfN (zf8 (p0.nodes.length:Int) 1) 5))) (Int.toNat (zfN (zf8 (p0.nodes.length:Int) 1) 5)))]]⟩
  refine rdM hT12 (λn a=>zbb p0 r5 n a.1 a.2.1 a.2.2=some o7/\a.2.2.length=(Int.toNat (zfN (zf8 (p0.nodes.length:Int) 1) 5))) (1,0,y1) ⟨j7,zbB g2⟩ ?_;rintro n ⟨v6,v7,l2⟩ ⟨j7,el2⟩;simp only[zbb]at j7;refine wTM hT12 ?_;refine cBM j7 (λ_ j7=>?_) λ_ j7=>?_
  .obtain rfl:=qal j7;exact zdk hT7 _ ⟨rfl,el2⟩
  obtain⟨o13,j13,j7⟩:=bsM j7;obtain⟨T13,hT13⟩:=zdD hT12 λa:(Int×Int×(List Int))=>uDM (T12 (v6,v7,l2)) [] [(8,(.ptr 4 0))] [] [.cells [(dU8 a.1),(dU8 a.2.1),(fzE false (eI .u8) a.2.2)]]
  refine EvL.jn T13 (λa=>a=o13) ?_ ?_
  .refine wSM ?_;refine cBM j13 (λ_ j13=>?_) λ_ j13=>?_
   .obtain rfl:=qal j13;exact lfj hT13 rfl (wm0 [.k,.k,.k,.k,.k] ⟨MB.cs ⟨qdk,qdk,qdk,qdk⟩,⟨MB.cs ⟨qdk,qdk,qdk⟩,⟨MB.es zai true l2,⟨MB.cs ⟨qdk,rfl,qdk⟩,⟨MB.zAx (.cons (.same trivial) (.cons (.same trivial) (.cons (.fr (zuK (eI .u8))) .nil))),qdk⟩⟩⟩⟩⟩)
   obtain⟨x9,g10,j13⟩:=bsM j13;refine zku @zcL (zao (n:=3) (e:=zan) rfl g10) ?_;exact zeV j13 hT13
  rintro⟨b4_0,b4_1,b4_2⟩ rfl;dsimp only at j7;refine wTM hT13 ?_;obtain⟨q11,g12,j7⟩:=bsM j7;refine zku ((zdj g12).1) ((zdj g12).2) ?_;obtain⟨o14,j14,j7⟩:=bsM j7;obtain⟨T14,hT14⟩:=zdD hT12 λa:Int=>uDM (T12 (v6,v7,l2)) [] [(9,(dI a))] [] []
  refine EvL.jn T14 _ (bJM j14 hT14) ?_;rintro v9 rfl;refine wTM hT14 ?_;obtain⟨x14,g15,j7⟩:=bsM j7;obtain⟨x16,g17,j7⟩:=bsM j7;obtain⟨y18,g19,j7⟩:=bsM j7;refine ziz @zed (ixM g15) el2 (zaL g17) (ltM el2 g17) (anM (zaQ g17 (zai.c true)) (show(l2.map (zai.c true)).set x14.toNat [(dI v9),(nE true (eI .i64) x16.parents),(nE true (eL (eI .i64)) x16.rows)]=y18.map (zai.c true)from zbS g19 (zai.c true))) ?_;exact zdk hT12 ((w64 (v6 * v9)),(w64 (v7+1)),y18) ⟨j7,(za4 g19).trans el2⟩
 rintro l2 ⟨rfl,el2⟩;refine wTM hT7 ?_;obtain⟨o18,j18,h⟩:=bsM h;obtain⟨T18,hT18⟩:=zdD hT7 λa:(List S_api_Node)=>uKM (T7 l2) [2,4] [] [(0,.gone),(2,.els 3 (a.map (zai.c true)))] []
 refine EvL.jn T18 (λa=>a=o18/\a.length=(Int.toNat (zfN (zf8 (p0.nodes.length:Int) 1) 5))) ?_ ?_
 .refine wSM ?_;obtain⟨T21,hT21⟩:=zdD hT7 λa:(Int×(List S_api_Node))=>uDM (T7 l2) [] [(10,(dI a.1))] [(2,.els 3 (a.2.map (zai.c true)))] []
  refine rdM hT21 (λn a=>zbr N p0 r5 n a.1 a.2=some o18/\a.2.length=(Int.toNat (zfN (zf8 (p0.nodes.length:Int) 1) 5))) (0,l2) ⟨j18,el2⟩ ?_;rintro n ⟨v10,l2'⟩ ⟨j18,el2'⟩;simp only[zbr]at j18;refine wTM hT21 ?_;refine cBM j18 (λ_ j18=>?_) λ_ j18=>?_
  .obtain rfl:=qal j18;exact zdk hT18 _ ⟨rfl,el2'⟩
  obtain⟨o22,j22,j18⟩:=bsM j18;obtain⟨T22,hT22⟩:=zdD hT21 λa:(Int×Int×(List Int))=>uDM (T21 (v10,l2')) [] [(11,(.ptr 4 0))] [] [.cells [(dU8 a.1),(dU8 a.2.1),(fzE false (eI .u8) a.2.2)]]
  refine EvL.jn T22 (λa=>a=o22) ?_ ?_
  .refine wSM ?_;refine cBM j22 (λ_ j22=>?_) λ_ j22=>?_
   .obtain rfl:=qal j22;exact lfj hT22 rfl (wm0 [.k,.k,.k,.k,.k] ⟨MB.cs ⟨qdk,qdk,qdk,qdk⟩,⟨MB.cs ⟨qdk,qdk,qdk⟩,⟨MB.es zai true l2',⟨MB.cs ⟨qdk,rfl,qdk⟩,⟨MB.zAx (.cons (.same trivial) (.cons (.same trivial) (.cons (.fr (zuK (eI .u8))) .nil))),qdk⟩⟩⟩⟩⟩)
   obtain⟨x22,g23,j22⟩:=bsM j22;refine zku @zcL (zao (n:=3) (e:=zan) rfl g23) ?_;exact zeV j22 hT22
  rintro⟨b4_0,b4_1,b4_2⟩ rfl;dsimp only at j18;refine wTM hT22 ?_;obtain⟨x24,g25,j18⟩:=bsM j18;refine sXM (ixM g25) ?_;obtain⟨y26,g27,j18⟩:=bsM j18;refine EvL.zjG (S':=⟨187,[(1,(.ptr 0 0)),(2,(.ptr 1 0)),(3,(dI (zfN (zf8 (p0.nodes.length:Int) 1) 5))),(4,(.ptr 3 0)),(5,(fzE true (eI .i64) r5)),(10,(dI v10)),(11,(.ptr 4 0)),(12,(dI x24)),(13,(dI 0))],[.cells [(dU8 p0.grain),(fzE false zan p0.nodes),(fzE false (eI .u8) p0.order)],.cells [(dI 0),zfy],.els 3 (l2'.map (zai.c true)),.cells [(dI (w64 (1+(w64 (p0.grain.tmod 60))))),(.sl 2 0 3 (Int.toNat (zfN (zf8 (p0.nodes.length:Int) 1) 5)) (some (Int.toNat (zfN (zf8 (p0.nodes.length:Int) 1) 5))) (Int.toNat (zfN (zf8 (p0.nodes.length:Int) 1) 5)))],.cells [(dU8 b4_0),(dU8 b4_1),(fzE false (eI .u8) b4_2)]]⟩) (wAM) ?_;refine zAd g27 (λkp=>⟨qdk,qdk,qdk,qdk⟩) (λkp=>⟨qdk,qdk,qdk⟩) (λkp=>trivial) (λkp=>trivial) el2' (zab ?_);refine sSM ?_;obtain⟨y28,g29,j18⟩:=bsM j18;refine EvL.zjG (S':=⟨187,[(1,(.ptr 0 0)),(2,(.ptr 1 0)),(3,(dI (zfN (zf8 (p0.nodes.length:Int) 1) 5))),(4,(.ptr 3 0)),(5,(fzE true (eI .i64) r5)),(10,(dI v10)),(11,(.ptr 4 0)),(12,(dI x24)),(15,(dI 0))],[.cells [(dU8 p0.grain),(fzE false zan p0.nodes),(fzE false (eI .u8) p0.order)],.cells [(dI 0),zfy],.els 3 (y26.map (zai.c true)),.cells [(dI (w64 (1+(w64 (p0.grain.tmod 60))))),(.sl 2 0 3 (Int.toNat (zfN (zf8 (p0.nodes.length:Int) 1) 5)) (some (Int.toNat (zfN (zf8 (p0.nodes.length:Int) 1) 5))) (Int.toNat (zfN (zf8 (p0.nodes.length:Int) 1) 5)))],.cells [(dU8 b4_0),(dU8 b4_1),(fzE false (eI .u8) b4_2)]]⟩) (wAM) ?_;refine zAM g29 (λkp=>⟨qdk,qdk,qdk,qdk⟩) (λkp=>⟨qdk,qdk,qdk⟩) (λkp=>trivial) (λkp=>trivial) ((zjZ g27).trans el2') (zab ?_);refine sSM ?_;exact zdk hT21 ((w64 (v10+1)),y28) ⟨j18,((zri g29).trans ((zjZ g27).trans el2'))⟩
 rintro l2' ⟨rfl,el2'⟩;refine wTM hT18 ?_;obtain rfl:=qal h;exact zg4.ret rfl (.zrH (.cons (.lit _) (.cons (zhW (e:=zad) rfl (.inl rfl) (by rw[qaX]; exact(el2').symm) (by rw[qaX]; exact(el2').symm) (λk h=>by cases h; exact qap _) (zid (λ_=>rfl) l2')) .nil)))
def zu1(f:Int->Int)(sets:List (List Int))(i k:Int):Option (List (List Int)):=
 (zaC sets i).bind λs=>(zaC s k).bind λw=>(zd2 s k (f w)).bind λs'=>zd2 sets i s'
def nz1(one:List Int)(i:Int):Nat->Int->List (List Int)->Option (List (List Int))
 | 0,_,_=>none
 | n+1,k,sets=>bif decide (k<16)then(zaC one k).bind λo=>(zu1 (λw=>orI .u64 w o) sets i k).bind λs=>nz1 one i n (w64 (k+1)) s else some sets
def nz2(zhI:List (List Int))(i:Int):Nat->Int->List (List Int)->Option (List (List Int))
 | 0,_,_=>none
 | n+1,j,sets=>bif decide (j<(zhI.length:Int))then(zaC zhI j).bind λone=>(nz1 one i 18 0 sets).bind λs=>nz2 zhI i n (w64 (j+1)) s else some sets
def nz3(kind:Int)(wd:List Int)(i:Int):Nat->Int->List (List Int)->Bool->Option (List (List Int)×Bool)
 | 0,_,_,_=>none
 | n+1,k,sets,ap=>bif decide (k<16)then(zaC wd k).bind λo=>
   bif kind == 4 then(zu1 (λw=>ziu .u64 w o) sets i k).bind λs=>nz3 kind wd i n (w64 (k+1)) s ap
   else(zaC sets i).bind λs0=>(zaC s0 k).bind λw0=>(zu1 (λw=>orI .u64 w o) sets i k).bind λs=>nz3 kind wd i n (w64 (k+1)) s (bif ap then ziu .u64 w0 o == 0 else false)
   else some (sets,ap)
def nz4(g:S_api_Gate)(i:Int):Nat->Int->List (List Int)->Bool->Option (List (List Int)×Bool)
 | 0,_,_,_=>none
 | n+1,j,sets,ap=>bif decide (j<(g.args.length:Int))then(zaC g.args j).bind λa=>(zaC sets a).bind λwd=>(nz3 g.kind wd i 18 0 sets ap).bind λr=>nz4 g i n (w64 (j+1)) r.1 r.2 else some (sets,ap)
def nzF(lits:List (List (List Int)))(g:S_api_Gate)(i:Int)(sets:List (List Int)):Option (List (List Int)):=
 bif g.kind == 2 then(zaC lits g.var).bind λrow=>(zaC row g.val).bind λip=>zd2 sets i ip
 else bif (bif g.kind == 4 then true else bif g.kind == 1 then decide (0<g.n)else false)then(zaC lits 0).bind λzhI=>nz2 zhI i (zhI.length+2) 0 sets else some sets
def nz5(lits:List (List (List Int)))(gates:List S_api_Gate):Nat->Int->List (List Int)->Bool->Option (List (List Int)×Bool)
 | 0,_,_,_=>none
 | n+1,i,sets,ap=>bif decide (i<(gates.length:Int))then(zaC gates i).bind λg=>(zaC sets i).bind λ_=>(nzF lits g i sets).bind λs=>(nz4 g i (g.args.length+2) 0 s ap).bind λr=>nz5 lits gates n (w64 (i+1)) r.1 r.2 else some (sets,ap)
def zbE(c:S_api_Circuit):Option (List (List Int)×Bool):=
 (zaW c.cards).bind λlits=>(zd5 128 (c.gates.length:Int) z16).bind λsets=>nz5 lits c.gates (c.gates.length+2) 0 sets true
structure SOk (m:Nat) (sets:List (List Int)):Prop where
 len:sets.length=m
 w:∀ s∈sets,s.length=16
variable{sets sets':List (List Int)}
theorem SOk.set{m:Nat}{i:Int}{s:List Int}(h:SOk m sets)(hs:s.length=16)(e:zd2 sets i s=some sets'):SOk m sets':=by
 refine⟨(za4 e).trans h.len,λa ha=>?_⟩;rw[zkG e]at ha;rcases qbg ha with ha | rfl
 .exact h.w a ha
 exact hs
theorem SOk.up{m:Nat}{f:Int->Int}{i k:Int}(h:SOk m sets)(e:zu1 f sets i k=some sets'):SOk m sets':=by
 unfold zu1 at e;obtain⟨s,g1,e⟩:=bind_some e;obtain⟨w,g2,e⟩:=bind_some e;obtain⟨s',g3,e⟩:=bind_some e;exact h.set ((za4 g3).trans (h.w s (zdy g1))) e
theorem ztZ{ls:List Nat}:∀(u:List (Int×List Int)) (a b:List (List (List Int))),LOk ls a->zxD u a=some b->LOk ls b
 | [],_,_,h,e=>by cases e; exact h
 | y :: u,a,b,h,e=>by
  unfold zxD at e;obtain⟨c,g,e⟩:=bind_some e;exact ztZ u c b (zsd _ _ _ _ h g) e
variable{x:List Int}
theorem zks{t:Bool}:List.take 16 (e16.c t x)=e16.c t x:=qaV (by rw[zdN]; exact qap _)
theorem zvL{t:Bool}:List.drop 16 (e16.c t x)=[]:=qaD (by rw[zdN]; exact qap _)
theorem zq2{cards:List Int}{r:List (List (List Int))}(h:zaW cards=some r):∀ row∈r,∀ ip∈row,ip.length=16:=by
 unfold zaW at h;obtain⟨_,_,h⟩:=bind_some h;obtain⟨_,_,h⟩:=bind_some h;obtain⟨rows,hrw,h⟩:=bind_some h;obtain⟨u,hu,h⟩:=bind_some h;exact(ztZ u rows r (zj1 hrw) h).w
theorem zgm{p0:S_api_Circuit}{r:List (List Int)×Bool}(h:zbE p0=some r):Lx.Fn mC 57 [(.agg [(fzE false (eI .i64) p0.cards),(fzE false zaa p0.gates)])] (.tup [(fzE true e16 r.1),(dB r.2)]):=by
 refine gnO ?_;unfold zbE at h;obtain⟨lits,hlit,h⟩:=bind_some h;obtain⟨sets,hmk,h⟩:=bind_some h;have hlw:=zq2 hlit;refine zab ?_;simp only[rnA,Nat.reduceEqDiff,Nat.reduceLT,reduceCtorEq];refine fCM (zge hlit) ?_;have hm:16=e16.n:=rfl;simp only[rnA,Nat.reduceEqDiff,Nat.reduceLT,reduceCtorEq,(zaK hmk).1.1,(zaK hmk).1.2,qbC,qaq,za1];have hok:SOk p0.gates.length sets:=by
  refine⟨by rw[zbB hmk,qaq],λs hs=>?_⟩;have:=zcR hmk λy=>y
  rw[qcg]at this;rw[<- this]at hs;rw[(qcE.1 hs).2]; rfl
 have hrep:List.replicate p0.gates.length ([dU 0,dU 0,dU 0,dU 0,dU 0,dU 0,dU 0,dU 0,dU 0,dU 0,dU 0,dU 0,dU 0,dU 0,dU 0,dU 0]:List D)=sets.map (e16.c true):=by
  have:=zcR hmk (e16.c true);rw[qaq]at this;exact this
 simp only[dU]at hrep;generalize hm:p0.gates.length=m at *;obtain⟨T0,hT0⟩:∃ T:Int×List (List Int)×Bool->LSt,T=λa=>⟨139,[(2,.sl 1 0 16 m (some m) m),(3,dB a.2.2),(4,fzE true (eL e16) lits),(24,fzE false zaa p0.gates),(25,dI m),(26,dI a.1)],[.gone,.els 16 (a.2.1.map (e16.c true))]⟩:=⟨_,rfl⟩
 obtain⟨TE,hTE⟩:∃ T:List (List Int)×Bool->LSt,T=λa=>⟨139,[(2,.sl 1 0 16 m (some m) m),(3,dB a.2)],[.gone,.els 16 (a.1.map (e16.c true))]⟩:=⟨_,rfl⟩
 refine EvL.jn TE (λa=>a=r/\a.1.length=m) ?_ ?_
 .refine zab ?_;simp only[rnA];refine EvL.rounds T0 (λn a=>nz5 lits p0.gates n a.1 a.2.1 a.2.2=some r/\SOk m a.2.1) (m+2) (0,sets,true) (by rw[hT0,hrep]; exact wAM) ⟨h,hok⟩ (λ_ h=>nomatch (show none=some _ from h.1)) ?_;rintro n ⟨i,sets,ap⟩ ⟨hp,ok⟩;simp only[nz5,hm]at hp;rw[congrFun hT0 (i,sets,ap)];refine zab ?_;simp only[rnA,Nat.reduceEqDiff,Nat.reduceLT];cases hc:decide (i<(m:Int))with
  | false=>
   rw[hc,qdm]at hp;simp only[rnA];cases hp;exact⟨(sets,ap),⟨rfl,ok.len⟩,by rw[hTE]; exact wAM⟩
  | true=>
   rw[hc,qdl]at hp;obtain⟨g,g5,hp⟩:=bind_some hp;obtain⟨si,g6,hp⟩:=bind_some hp;obtain⟨s1,g7,hp⟩:=bind_some hp;obtain⟨r1,g8,hp⟩:=bind_some hp;simp only[rnA,Nat.reduceEqDiff,Nat.reduceLT,Nat.reduceAdd,Nat.reduceLeDiff,zao (n:=5) (e:=zaa) rfl g5,zaD,zaL g6,(show i<((m:Nat):Int)from ok.len ▸ zb3 g6),ok.len];obtain⟨T1,hT1⟩:∃ T:List (List Int)->LSt,T=λs=>⟨139,[(2,.sl 1 0 16 m (some m) m),(3,dB ap),(4,fzE true (eL e16) lits),(5,dI i),(6,.ptr 2 0),(7,.eptr 1 16 i.toNat 0 m),(24,fzE false zaa p0.gates),(25,dI m),(26,dI i)],[.gone,.els 16 (s.map (e16.c true)),.cells [dI g.kind,dI g.var,dI g.val,dI g.n,fzE false (eI .i64) g.args]]⟩:=⟨_,rfl⟩
   refine EvL.jn T1 (λa=>a=s1/\SOk m a) ?_ ?_
   .refine zab ?_;unfold nzF at g7;cases hk2:(g.kind == 2)with
    | true=>
     rw[hk2,qdl]at g7;obtain⟨row,q1,g7⟩:=bind_some g7;obtain⟨ip,q2,g7⟩:=bind_some g7;simp only[rnA,Nat.reduceEqDiff,Nat.reduceLT,Nat.reduceLeDiff,zao (n:=1) (e:=eL e16) rfl q1,zao (n:=16) (e:=e16) rfl q2,ok.len,zaQ g6 (e16.c true),zks,zdN,zvL,qaY,zbS g7 (e16.c true)];exact⟨s1,⟨rfl,ok.set (hlw row (zdy q1) ip (zdy q2)) g7⟩,by rw[hT1]; exact wAM⟩
    | false=>
     rw[hk2,qdm]at g7;simp only[rnA,Nat.reduceEqDiff];obtain⟨T2,hT2⟩:∃ T:Bool->LSt,T=λb=>⟨139,[(2,.sl 1 0 16 m (some m) m),(3,dB ap),(4,fzE true (eL e16) lits),(5,dI i),(6,.ptr 2 0),(7,.eptr 1 16 i.toNat 0 m),(24,fzE false zaa p0.gates),(25,dI m),(26,dI i),(49,dB b)],[.gone,.els 16 (sets.map (e16.c true)),.cells [dI g.kind,dI g.var,dI g.val,dI g.n,fzE false (eI .i64) g.args]]⟩:=⟨_,rfl⟩
     refine EvL.jn T2 (λb=>b=(bif g.kind == 4 then true else bif g.kind == 1 then decide (0<g.n)else false)) ?_ ?_
     .refine zab ?_;cases hk4:(g.kind == 4)with
      | true=>
       simp only[rnA,Nat.reduceEqDiff,Nat.reduceLT,hk4];exact⟨true,rfl,by rw[hT2]; exact wAM⟩
      | false=>
       cases hk1:(g.kind == 1)with
       | true=>
        simp only[rnA,Nat.reduceEqDiff,Nat.reduceLT,hk4,hk1];exact⟨_,rfl,by rw[hT2]; exact wAM⟩
       | false=>
        simp only[rnA,Nat.reduceEqDiff,Nat.reduceLT,hk4,hk1];exact⟨_,rfl,by rw[hT2]; exact wAM⟩
     rintro b hb;rw[<- hb]at g7;cases b with
     | false=>
      rw[qdm]at g7;cases g7;rw[congrFun hT2 false];refine zab ?_;simp only[rnA,Nat.reduceEqDiff];exact⟨sets,⟨rfl,ok⟩,by rw[hT1]; exact wAM⟩
     | true=>
      rw[qdl]at g7;obtain⟨zhI,q1,g7⟩:=bind_some g7;have hones:=hlw zhI (zdy q1);rw[congrFun hT2 true];refine zab ?_;simp only[rnA,Nat.reduceEqDiff,Nat.reduceLT,zao (n:=1) (e:=eL e16) rfl q1,za1];obtain⟨T3,hT3⟩:∃ T:Int×List (List Int)->LSt,T=λp=>⟨139,[(2,.sl 1 0 16 m (some m) m),(3,dB ap),(4,fzE true (eL e16) lits),(5,dI i),(6,.ptr 2 0),(7,.eptr 1 16 i.toNat 0 m),(24,fzE false zaa p0.gates),(25,dI m),(26,dI i),(65,fzE true e16 zhI),(66,dI zhI.length),(67,dI p.1)],[.gone,.els 16 (p.2.map (e16.c true)),.cells [dI g.kind,dI g.var,dI g.val,dI g.n,fzE false (eI .i64) g.args]]⟩:=⟨_,rfl⟩
      refine EvL.jn T1 (λa=>a=s1/\SOk m a) ?_ ?_
      .refine zab ?_;simp only[rnA];refine EvL.rounds T3 (λn p=>nz2 zhI i n p.1 p.2=some s1/\SOk m p.2) (zhI.length+2) (0,sets) (by rw[hT3]; exact wAM) ⟨g7,ok⟩ (λ_ h=>nomatch (show none=some _ from h.1)) ?_;rintro n ⟨j,s⟩ ⟨hj,oks⟩;simp only[nz2]at hj;simp only at oks;rw[congrFun hT3 (j,s)];refine zab ?_;cases hjc:decide (j<(zhI.length:Int))with
       | false=>
        rw[hjc,qdm]at hj;simp only[rnA,Nat.reduceEqDiff,Nat.reduceLT,reduceCtorEq,hjc];cases hj;exact⟨_,⟨rfl,oks⟩,by rw[hT1]; exact wAM⟩
       | true=>
        rw[hjc,qdl]at hj;obtain⟨one,q3,hj⟩:=bind_some hj;obtain⟨s2,q4,hj⟩:=bind_some hj;have hone:=hones one (zdy q3);simp only[rnA,Nat.reduceEqDiff,Nat.reduceLT,Nat.reduceAdd,Nat.reduceLeDiff,hjc,zao (n:=16) (e:=e16) rfl q3,zks,zdN,qaY];obtain⟨T4,hT4⟩:∃ T:Int×List (List Int)->LSt,T=λp=>⟨139,[(2,.sl 1 0 16 m (some m) m),(3,dB ap),(4,fzE true (eL e16) lits),(5,dI i),(6,.ptr 2 0),(7,.eptr 1 16 i.toNat 0 m),(24,fzE false zaa p0.gates),(25,dI m),(26,dI i),(65,fzE true e16 zhI),(66,dI zhI.length),(67,dI j),(71,.agg (e16.c true one)),(72,dI p.1)],[.gone,.els 16 (p.2.map (e16.c true)),.cells [dI g.kind,dI g.var,dI g.val,dI g.n,fzE false (eI .i64) g.args]]⟩:=⟨_,rfl⟩
        obtain⟨T5,hT5⟩:∃ T:List (List Int)->LSt,T=λs=>⟨139,[(2,.sl 1 0 16 m (some m) m),(3,dB ap),(4,fzE true (eL e16) lits),(5,dI i),(6,.ptr 2 0),(7,.eptr 1 16 i.toNat 0 m),(24,fzE false zaa p0.gates),(25,dI m),(26,dI i),(65,fzE true e16 zhI),(66,dI zhI.length),(67,dI j)],[.gone,.els 16 (s.map (e16.c true)),.cells [dI g.kind,dI g.var,dI g.val,dI g.n,fzE false (eI .i64) g.args]]⟩:=⟨_,rfl⟩
        refine EvL.jn T5 (λa=>a=s2/\SOk m a) ?_ ?_
        .refine zab ?_;simp only[rnA];refine EvL.rounds T4 (λn p=>nz1 one i n p.1 p.2=some s2/\SOk m p.2) 18 (0,s) (by rw[hT4]; exact wAM) ⟨q4,oks⟩ (λ_ h=>nomatch (show none=some _ from h.1)) ?_;clear oks q4 hj hT3;rintro n ⟨k,s⟩ ⟨hk,oks⟩;simp only[nz1]at hk;simp only at oks;rw[congrFun hT4 (k,s)];refine zab ?_;cases hkc:decide (k<16)with
         | false=>
          rw[hkc,qdm]at hk;simp only[rnA,Nat.reduceEqDiff,Nat.reduceLT,reduceCtorEq,hkc];cases hk;exact⟨_,⟨rfl,oks⟩,by rw[hT5]; exact wAM⟩
         | true=>
          rw[hkc,qdl]at hk;obtain⟨o,q5,hk⟩:=bind_some hk;obtain⟨s',u0,hk⟩:=bind_some hk;have oks':=oks.up u0;unfold zu1 at u0;obtain⟨z0,u1,u0⟩:=bind_some u0;obtain⟨w,u2,u0⟩:=bind_some u0;obtain⟨z1,u3,u4⟩:=bind_some u0;have hz0:=oks.w z0 (zdy u1);have hk0:=zaL u2;have hk16:k<((16:Nat):Int):=hz0 ▸ zb3 u2;have hk15:(k.toNat<=15)=True:=eq_true (by omega);have hput:List.take k.toNat (e16.c true z0)++ [D.lit (.int .u64 (IntKind.u64.wrap (BitVec.ofInt IntKind.u64.bits w ||| BitVec.ofInt IntKind.u64.bits o).toNat))]++ List.drop (k.toNat+1) (e16.c true z0)=e16.c true z1:=zkW hz0 u3;simp only[rnA,Nat.reduceEqDiff,Nat.reduceLT,Nat.reduceLeDiff,hkc,hk0,hk16,qcz,qbI,zfv hone q5,oks.len,zaQ u1 (e16.c true),zfv hz0 u2,zdN,hk15,hput,zbS u4 (e16.c true)];exact⟨(w64 (k+1),s'),⟨hk,oks'⟩,by rw[hT4]; exact wAM⟩
        rintro a ⟨rfl,oka⟩;rw[congrFun hT5 a];refine zab ?_;simp only[rnA,Nat.reduceEqDiff,Nat.reduceLT];exact⟨(w64 (j+1),a),⟨hj,oka⟩,by rw[hT3]; exact wAM⟩
      rintro a ⟨rfl,oka⟩;rw[congrFun hT1 a];refine zab ?_;simp only[rnA];exact⟨a,⟨rfl,oka⟩,by rw[hT1]; exact wAM⟩
   rintro a ⟨rfl,oka⟩;rw[congrFun hT1 a];refine zab ?_;simp only[rnA,Nat.reduceEqDiff,Nat.reduceLT,za1];obtain⟨T6,hT6⟩:∃ T:Int×List (List Int)×Bool->LSt,T=λp=>⟨139,[(2,.sl 1 0 16 m (some m) m),(3,dB p.2.2),(4,fzE true (eL e16) lits),(5,dI i),(6,.ptr 2 0),(7,.eptr 1 16 i.toNat 0 m),(24,fzE false zaa p0.gates),(25,dI m),(26,dI i),(88,fzE false (eI .i64) g.args),(89,dI g.args.length),(90,dI p.1)],[.gone,.els 16 (p.2.1.map (e16.c true)),.cells [dI g.kind,dI g.var,dI g.val,dI g.n,fzE false (eI .i64) g.args]]⟩:=⟨_,rfl⟩
   obtain⟨T7,hT7⟩:∃ T:List (List Int)×Bool->LSt,T=λp=>⟨139,[(2,.sl 1 0 16 m (some m) m),(3,dB p.2),(4,fzE true (eL e16) lits),(24,fzE false zaa p0.gates),(25,dI m),(26,dI i)],[.gone,.els 16 (p.1.map (e16.c true))]⟩:=⟨_,rfl⟩
   refine EvL.jn T7 (λp=>p=r1/\SOk m p.1) ?_ ?_
   .refine zab ?_;simp only[rnA];refine EvL.rounds T6 (λn p=>nz4 g i n p.1 p.2.1 p.2.2=some r1/\SOk m p.2.1) (g.args.length+2) (0,a,ap) (by rw[hT6]; exact wAM) ⟨g8,oka⟩ (λ_ h=>nomatch (show none=some _ from h.1)) ?_;rintro n ⟨j,s,ap⟩ ⟨hj,oks⟩;simp only[nz4]at hj;simp only at oks;rw[congrFun hT6 (j,s,ap)];refine zab ?_;cases hjc:decide (j<(g.args.length:Int))with
    | false=>
     rw[hjc,qdm]at hj;simp only[rnA,Nat.reduceEqDiff,Nat.reduceLT,reduceCtorEq,hjc];cases hj;exact⟨_,⟨rfl,oks⟩,by rw[hT7]; exact wAM⟩
    | true=>
     rw[hjc,qdl]at hj;obtain⟨x,q2,hj⟩:=bind_some hj;obtain⟨wd,q3,hj⟩:=bind_some hj;obtain⟨r2,q4,hj⟩:=bind_some hj;have hwd:=oks.w wd (zdy q3);simp only[rnA,Nat.reduceEqDiff,Nat.reduceLT,Nat.reduceLeDiff,hjc,zao (n:=1) (e:=eI .i64) rfl q2,zaL q3,(show x<((m:Nat):Int)from oks.len ▸ zb3 q3),oks.len,zaQ q3 (e16.c true),zks,zdN];obtain⟨T8,hT8⟩:∃ T:Int×List (List Int)×Bool->LSt,T=λp=>⟨139,[(2,.sl 1 0 16 m (some m) m),(3,dB p.2.2),(4,fzE true (eL e16) lits),(5,dI i),(6,.ptr 2 0),(7,.eptr 1 16 i.toNat 0 m),(24,fzE false zaa p0.gates),(25,dI m),(26,dI i),(88,fzE false (eI .i64) g.args),(89,dI g.args.length),(90,dI j),(97,.agg (e16.c true wd)),(98,dI p.1)],[.gone,.els 16 (p.2.1.map (e16.c true)),.cells [dI g.kind,dI g.var,dI g.val,dI g.n,fzE false (eI .i64) g.args]]⟩:=⟨_,rfl⟩
     obtain⟨T9,hT9⟩:∃ T:List (List Int)×Bool->LSt,T=λp=>⟨139,[(2,.sl 1 0 16 m (some m) m),(3,dB p.2),(4,fzE true (eL e16) lits),(5,dI i),(6,.ptr 2 0),(7,.eptr 1 16 i.toNat 0 m),(24,fzE false zaa p0.gates),(25,dI m),(26,dI i),(88,fzE false (eI .i64) g.args),(89,dI g.args.length),(90,dI j)],[.gone,.els 16 (p.1.map (e16.c true)),.cells [dI g.kind,dI g.var,dI g.val,dI g.n,fzE false (eI .i64) g.args]]⟩:=⟨_,rfl⟩
     refine EvL.jn T9 (λa=>a=r2/\SOk m a.1) ?_ ?_
     .refine zab ?_;simp only[rnA];refine EvL.rounds T8 (λn p=>nz3 g.kind wd i n p.1 p.2.1 p.2.2=some r2/\SOk m p.2.1) 18 (0,s,ap) (by rw[hT8]; exact wAM) ⟨q4,oks⟩ (λ_ h=>nomatch (show none=some _ from h.1)) ?_;clear oks q3 q4 hj;rintro n ⟨k,s,ap⟩ ⟨hk,oks⟩;simp only[nz3]at hk;simp only at oks;rw[congrFun hT8 (k,s,ap)];refine zab ?_;cases hkc:decide (k<16)with
      | false=>
       rw[hkc,qdm]at hk;simp only[rnA,Nat.reduceEqDiff,Nat.reduceLT,reduceCtorEq,hkc];cases hk;exact⟨_,⟨rfl,oks⟩,by rw[hT9]; exact wAM⟩
      | true=>
       rw[hkc,qdl]at hk;obtain⟨o,q5,hk⟩:=bind_some hk;simp only[rnA,Nat.reduceEqDiff,Nat.reduceLT,hkc];refine EvL.jn (λp:List (List Int)×Bool=>T8 (k,p.1,p.2)) (λp=>nz3 g.kind wd i n (w64 (k+1)) p.1 p.2=some r2/\SOk m p.1) ?_ ?_
       .refine zab ?_;cases hk4:(g.kind == 4)with
        | true=>
         rw[hk4,qdl]at hk;obtain⟨s',u0,hk⟩:=bind_some hk;have oks':=oks.up u0;unfold zu1 at u0;obtain⟨z0,u1,u0⟩:=bind_some u0;obtain⟨w,u2,u0⟩:=bind_some u0;obtain⟨z1,u3,u4⟩:=bind_some u0;have hz0:=oks.w z0 (zdy u1);have hk0:=zaL u2;have hk16:k<((16:Nat):Int):=hz0 ▸ zb3 u2;have hk15:(k.toNat<=15)=True:=eq_true (by omega);have hput:List.take k.toNat (e16.c true z0)++ [D.lit (.int .u64 (IntKind.u64.wrap (BitVec.ofInt IntKind.u64.bits w &&& BitVec.ofInt IntKind.u64.bits o).toNat))]++ List.drop (k.toNat+1) (e16.c true z0)=e16.c true z1:=zkW hz0 u3;simp only[rnA,Nat.reduceEqDiff,Nat.reduceLT,Nat.reduceLeDiff,reduceCtorEq,hk4,hk0,hk16,qcz,qbI,zfv hwd q5,oks.len,zaQ u1 (e16.c true),zfv hz0 u2,zdN,hk15,hput,zbS u4 (e16.c true)];exact⟨(s',ap),⟨hk,oks'⟩,by rw[hT8]; exact wAM⟩
        | false=>
         rw[hk4,qdm]at hk;obtain⟨z,v1,hk⟩:=bind_some hk;obtain⟨w0,v2,hk⟩:=bind_some hk;obtain⟨s',u0,hk⟩:=bind_some hk;have oks':=oks.up u0;unfold zu1 at u0;obtain⟨z0,u1,u0⟩:=bind_some u0;obtain⟨w,u2,u0⟩:=bind_some u0;obtain⟨z1,u3,u4⟩:=bind_some u0;have hz0:=oks.w z0 (zdy u1);have hk0:=zaL u2;have hk16:k<((16:Nat):Int):=hz0 ▸ zb3 u2;have hk15:(k.toNat<=15)=True:=eq_true (by omega);have hput:List.take k.toNat (e16.c true z0)++ [D.lit (.int .u64 (IntKind.u64.wrap (BitVec.ofInt IntKind.u64.bits w ||| BitVec.ofInt IntKind.u64.bits o).toNat))]++ List.drop (k.toNat+1) (e16.c true z0)=e16.c true z1:=zkW hz0 u3;rw[u1]at v1;obtain rfl:=qal v1;rw[u2]at v2;obtain rfl:=qal v2;simp only[rnA,Nat.reduceEqDiff,Nat.reduceLT,hk4,hk0,hk16,qcz,qbI,zfv hwd q5];cases ap with
         | false=>
          refine EvL.scope (zab ?_);simp only[rnA,Nat.reduceEqDiff,Nat.reduceLT,Nat.reduceLeDiff,hk0,hk16,qbI,oks.len,zaQ u1 (e16.c true),zfv hz0 u2,zdN,hk15,hput,zbS u4 (e16.c true)];exact⟨(s',false),⟨hk,oks'⟩,by rw[hT8]; exact wAM⟩
         | true=>
          refine EvL.scope (zab ?_);simp only[rnA,Nat.reduceEqDiff,Nat.reduceLT,Nat.reduceLeDiff,hk0,hk16,qbI,oks.len,zaQ u1 (e16.c true),zfv hz0 u2,zdN,hk15,hput,zbS u4 (e16.c true)];exact⟨(s',ziu .u64 w o == 0),⟨hk,oks'⟩,by rw[hT8]; exact wAM⟩
       rintro⟨a,ap⟩ ⟨hk,oka⟩;rw[congrFun hT8 (k,a,ap)];refine zab ?_;simp only[rnA,Nat.reduceEqDiff,Nat.reduceLT];exact⟨(w64 (k+1),a,ap),⟨hk,oka⟩,by rw[hT8]; exact wAM⟩
     rintro⟨a,ap⟩ ⟨rfl,oka⟩;rw[congrFun hT9 (a,ap)];refine zab ?_;simp only[rnA,Nat.reduceEqDiff,Nat.reduceLT];exact⟨(w64 (j+1),a,ap),⟨hj,oka⟩,by rw[hT6]; exact wAM⟩
   rintro⟨a,ap⟩ ⟨rfl,oka⟩;rw[congrFun hT7 (a,ap)];refine zab ?_;simp only[rnA,Nat.reduceEqDiff,Nat.reduceLT];exact⟨(w64 (i+1),a,ap),⟨hp,oka⟩,by rw[hT0]; exact wAM⟩
 rintro⟨s,a⟩ ⟨rfl,hl⟩;rw[congrFun hTE (s,a)];refine zab ?_;simp only[rnA,Nat.reduceEqDiff,Nat.reduceLT];exact zg4.ret rfl (.zrr (.cons (zf5 (e:=e16) (t:=true) rfl (.inl rfl) hl.symm hl.symm (λk h=>by cases h; exact qap _) λ_=>rfl) (.cons (.lit _) .nil)))
def zaM(x7:S_api_Gate)(r4:(List Int)):Nat->Bool->Bool->Int->Int->Option (Bool×Bool)
 | 0,_,_,_,_=>none
 | n+1,v2',v3',v9,v29=>(
bif (decide (v29<(x7.args.length:Int)))then(
(zaC x7.args v29).bind λx10=>
((bif (x7.kind == 3)then(
bif v2' then(
(zaC r4 x10).bind λx17=>
(zaC x7.args 0).bind λx19=>
(zaC r4 x19).bind λx21=>
some ((x17 == x21),v3'))
else(
some (false,v3')))
else(
bif v3' then(
(zaC r4 x10).bind λx14=>
some (v2',((ziu .u64 x14 v9)== 0)))
else(
some (v2',false))):Option ((Bool×Bool)))).bind λo=>match o with
|(v2'',v3'')=>(
(zaC r4 x10).bind λx23=>
(zbY [v9,x23]).bind λr25=>
zaM x7 r4 n v2'' v3'' r25 (w64 (v29+1))))
else(
some (v2',v3')))
def zbo(p0:S_api_Circuit)(r4:(List Int)):Nat->Bool->Bool->Int->Option (Bool×Bool)
 | 0,_,_,_=>none
 | n+1,v2,v3,v22=>(
bif (decide (v22<(p0.gates.length:Int)))then(
(zaC p0.gates v22).bind λx7=>
((zaM x7 r4 ((x7.args.length:Int) - 0+2:Int).toNat v2 v3 0 0:Option ((Bool×Bool)))).bind λo=>match o with
|(v2',v3')=>(
zbo p0 r4 n v2' v3' (w64 (v22+1))))
else(
some (v2,v3)))
def zbK(p0:S_api_Circuit):Option (Bool×Bool×Bool×Int):=
(zca p0).bind λr1=>
bif (r1 == 0)then(
(zbj p0).bind λr4=>
((zbo p0 r4 ((p0.gates.length:Int) - 0+2:Int).toNat true true 0:Option ((Bool×Bool)))).bind λo=>match o with
|(v2,v3)=>(
(zbE p0).bind λr27=>
some (v2,v3,r27.2,0)))
else(
some (false,false,false,r1))
theorem zhR{p0:S_api_Circuit}{r:(Bool×Bool×Bool×Int)}(h:zbK p0=some r):Lx.Fn mC 12 [(.agg [(fzE false (eI .i64) p0.cards),(fzE false zaa p0.gates)])] (.tup [(dB r.1),(dB r.2.1),(dB r.2.2.1),(dI r.2.2.2)]):=by
 refine gnO ?_;unfold zbK at h;refine zab ?_;obtain⟨r1,g2,h⟩:=bsM h;refine sSM ?_;refine fCM (zeQ g2) ?_;refine cBM h (λ_ h=>?_) λ_ h=>?_
 .exact rHM h
 obtain⟨r4,g5,h⟩:=bsM h;refine sSM ?_;refine fCM (zfP g5) ?_;obtain⟨o27,j27,h⟩:=bsM h;obtain⟨T27,hT27⟩:=mkT λa:(Bool×Bool)=>⟨78,[(1,(.ptr 0 0)),(2,(dB a.1)),(3,(dB a.2))],[.cells [(fzE false (eI .i64) p0.cards),(fzE false zaa p0.gates)]]⟩
 refine EvL.jn T27 (λa=>a=o27) ?_ ?_
 .refine wSM ?_;obtain⟨T46,hT46⟩:=mkT λa:(Bool×Bool×Int)=>⟨78,[(1,(.ptr 0 0)),(2,(dB a.1)),(3,(dB a.2.1)),(6,(fzE true (eI .u64) r4)),(20,(fzE false zaa p0.gates)),(21,(dI (p0.gates.length:Int))),(22,(dI a.2.2))],[.cells [(fzE false (eI .i64) p0.cards),(fzE false zaa p0.gates)]]⟩
  refine rdM hT46 (λn a=>zbo p0 r4 n a.1 a.2.1 a.2.2=some o27) (true,true,0) j27 ?_;rintro n ⟨v2,v3,v22⟩ j27;simp only[zbo]at j27;refine wTM hT46 ?_;refine cBM j27 (λ_ j27=>?_) λ_ j27=>?_
  .exact zeV j27 hT27
  obtain⟨x7,g8,j27⟩:=bsM j27;refine zku @zaD (zao (n:=5) (e:=zaa) rfl g8) ?_;obtain⟨o50,j50,j27⟩:=bsM j27;obtain⟨T50,hT50⟩:=zdD hT46 λa:(Bool×Bool)=>uDM (T46 (v2,v3,v22)) [2,3] [(2,(dB a.1)),(3,(dB a.2))] [] []
  refine EvL.jn T50 (λa=>a=o50) ?_ ?_
  .refine wSM ?_;obtain⟨T53,hT53⟩:=zdD hT46 λa:(Bool×Bool×Int×Int)=>uDM (T46 (v2,v3,v22)) [2,3] [(2,(dB a.1)),(3,(dB a.2.1)),(8,(.ptr 1 0)),(9,(dU a.2.2.1)),(27,(fzE false (eI .i64) x7.args)),(28,(dI (x7.args.length:Int))),(29,(dI a.2.2.2))] [] [.cells [(dI x7.kind),(dI x7.var),(dI x7.val),(dI x7.n),(fzE false (eI .i64) x7.args)]]
   refine rdM hT53 (λn a=>zaM x7 r4 n a.1 a.2.1 a.2.2.1 a.2.2.2=some o50) (v2,v3,0,0) j50 ?_;rintro n ⟨v2',v3',v9,v29⟩ j50;simp only[zaM]at j50;refine wTM hT53 ?_;refine cBM j50 (λ_ j50=>?_) λ_ j50=>?_
   .exact zeV j50 hT50
   obtain⟨x10,g11,j50⟩:=bsM j50;refine sXM (ixM g11) ?_;obtain⟨o54,j54,j50⟩:=bsM j50;obtain⟨T54,hT54⟩:=zdD hT53 λa:(Bool×Bool)=>uDM (T53 (v2',v3',v9,v29)) [2,3] [(2,(dB a.1)),(3,(dB a.2)),(11,(dI x10))] [] []
   refine EvL.jn T54 (λa=>a=o54) ?_ ?_
   .refine wSM ?_;refine cBM j54 (λ_ j54=>?_) λ_ j54=>?_
    .refine cBM j54 (λ_ j54=>?_) λ_ j54=>?_
     .exact zeV j54 hT54
     obtain⟨x14,g15,j54⟩:=bsM j54;refine sXM (zao (n:=1) (e:=(eI .u64)) rfl g15) ?_;exact zeV j54 hT54
    refine cBM j54 (λ_ j54=>?_) λ_ j54=>?_
    .exact zeV j54 hT54
    obtain⟨x17,g18,j54⟩:=bsM j54;obtain⟨x19,g20,j54⟩:=bsM j54;obtain⟨x21,g22,j54⟩:=bsM j54;refine zu2 (zao (n:=1) (e:=(eI .u64)) rfl g18) (ixM g20) (zao (n:=1) (e:=(eI .u64)) rfl g22) ?_;exact zeV j54 hT54
   rintro⟨v2'',v3''⟩ rfl;dsimp only at j50;refine wTM hT54 ?_;obtain⟨x23,g24,j50⟩:=bsM j50;obtain⟨r25,g26,j50⟩:=bsM j50;refine sXM (zao (n:=1) (e:=(eI .u64)) rfl g24) ?_;refine EvL.fn (zfm g26) rfl rfl (.cons (zf5 (e:=(eI .u64)) (t:=true) rfl (.inl rfl) rfl rfl (λk h=>by cases h; exact qap _) (λh=>nomatch h)) .nil) ?_;refine sSM ?_;exact zdk hT53 (v2'',v3'',r25,(w64 (v29+1))) j50
  rintro⟨v2',v3'⟩ rfl;dsimp only at j27;refine wTM hT50 ?_;exact zdk hT46 (v2',v3',(w64 (v22+1))) j27
 rintro⟨v2,v3⟩ rfl;dsimp only at h;refine wTM hT27 ?_;obtain⟨r27,g28,h⟩:=bsM h;refine sSM ?_;refine fCM (zgm g28) ?_;exact rHM h
def zcy(p0:S_api_Net):Nat->Int->Int->(List Int)->Option (Out (Int×(List Int)) (S_net_network×Int))
 | 0,_,_,_=>none
 | n+1,v5,v50,l2=>(
bif (decide (v50<(p0.nodes.length:Int)))then(
(zaC p0.nodes v50).bind λx8=>
((bif (decide (x8.card<1))then(
some true)
else(
some (decide (4<x8.card))):Option Bool)).bind λv62=>
bif v62 then(
some (.ret ((S_net_network.mk (S_api_Net.mk 0 []) [] [] []),50)))
else(
(zaC l2 v50).bind λx12=>
(zd2 l2 v50 x8.card).bind λy14=>
zcy p0 n (w64 (v5 * x8.card)) (w64 (v50+1)) y14))
else(
some (.go (v5,l2))))
def zc8(x18:S_api_Node)(p0:S_api_Net)(v82:Int):Nat->Int->Int->(List Int)->Option (Out (List Int) (S_net_network×Int))
 | 0,_,_,_=>none
 | n+1,v10,v90,l3'=>(
bif (decide (v90<(x18.parents.length:Int)))then(
(zaC x18.parents v90).bind λx21=>
((bif (decide (x21<=v10))then(
some true)
else(
bif (decide ((p0.nodes.length:Int)<=x21))then(
some true)
else(
some (x21 == v82))):Option Bool)).bind λv109=>
bif v109 then(
some (.ret ((S_net_network.mk (S_api_Net.mk 0 []) [] [] []),50)))
else(
(zaC l3' v82).bind λx26=>
(zo9 .u64 1 x21).bind λq28=>
(zd2 l3' v82 (orI .u64 x26 q28)).bind λy30=>
zc8 x18 p0 v82 n x21 (w64 (v90+1)) y30))
else(
some (.go l3')))
def zcA(p0:S_api_Net)(l2:(List Int)):Nat->Int->(List Int)->Option (Out (List Int) (S_net_network×Int))
 | 0,_,_=>none
 | n+1,v82,l3=>(
bif (decide (v82<(p0.nodes.length:Int)))then(
(zaC p0.nodes v82).bind λx18=>
((zc8 x18 p0 v82 ((x18.parents.length:Int) - 0+2:Int).toNat (-1) 0 l3:Option (Out (List Int) (S_net_network×Int)))).bind λo=>match o with
| .go l3'=>(
(zbd (S_net_network.mk p0 l2 l3' []) x18).bind λr32=>
bif r32 then(
zcA p0 l2 n (w64 (v82+1)) l3')
else(
some (.ret ((S_net_network.mk (S_api_Net.mk 0 []) [] [] []),50))))
| .ret r=>some (.ret r))
else(
some (.go l3)))
def zc0(p0:S_api_Net):Option (S_net_network×Int):=
((bif (decide (p0.grain<1))then(
some true)
else(
bif (decide (60<p0.grain))then(
some true)
else(
bif (decide ((p0.nodes.length:Int)<1))then(
some true)
else(
some (decide (8<(p0.nodes.length:Int)))))):Option Bool)).bind λv34=>
bif v34 then(
some ((S_net_network.mk (S_api_Net.mk 0 []) [] [] []),50))
else(
(zd5 8 (p0.nodes.length:Int) 0).bind λy5=>
((zcy p0 ((p0.nodes.length:Int) - 0+2:Int).toNat 1 0 y5:Option (Out (Int×(List Int)) (S_net_network×Int)))).bind λo=>match o with
| .go (v5,l2)=>(
bif (decide (1024<v5))then(
some ((S_net_network.mk (S_api_Net.mk 0 []) [] [] []),50))
else(
((zcA p0 l2 ((p0.nodes.length:Int) - 0+2:Int).toNat 0 y5:Option (Out (List Int) (S_net_network×Int)))).bind λo=>match o with
| .go l3=>(
(zdm l3).bind λr35=>
bif r35.2 then(
some ((S_net_network.mk p0 l2 l3 r35.1),0))
else(
some ((S_net_network.mk (S_api_Net.mk 0 []) [] [] []),50)))
| .ret r=>some r))
| .ret r=>some r)
def zj7:C:=
 .seq (rg [oW 1 0,
 ⟨some 2,.alloc [(.int .i64 0),(.slice none 0 0),(.slice none 0 0),(.slice none 0 0),(.slice none 0 0)],none⟩,
 oK 3 0])
 (.seq (.seq (.scope (rg [oF 15 0 1,
 oL 16 15,
 oD 17 .lss 16 1,
 oM 18 17,
 oFg 19 0 1 18 false,
 oLg 20 19 18 false,
 oDg 21 .gtr 20 60 18 false,
 oP 22 18 21,
 oM 23 22,
 oFg 24 1 1 23 false,
 oLg 25 24 23 false,
 ⟨some 26,.len (.s 25),some (23,false)⟩,
 oDg 27 .lss 26 1 23 false,
 oP 28 23 27,
 oM 29 28,
 oFg 30 1 1 29 false,
 oLg 31 30 29 false,
 ⟨some 32,.len (.s 31),some (29,false)⟩,
 oDg 33 .gtr 32 8 29 false,
 oP 34 29 33]))
 (.cond (.s 34) (.seq (rg [⟨some 35,.build [(.int .i64 0),(.slice none 0 0),(.slice none 0 0),(.slice none 0 0),(.slice none 0 0)] [],none⟩,
 oS 5 2 35,
 oK 3 50])
 (.ret))
 (.skip)))
 (.seq (.reg true false [oN 36 2 1,
 oF 37 1 1,
 oL 38 37,
 oE 39 38,
 oF 41 1 1,
 oL 42 41,
 oE 43 42,
 ⟨some 40,.mk 1 8 [(.int .i64 0)] (.s 39) (.s 39),none⟩,
 ⟨some 44,.mk 1 8 [(.int .u64 0)] (.s 43) (.s 43),none⟩,
 ⟨some 45,.build [(.int .i64 0),(.slice none 0 0),(.slice none 0 0),(.slice none 0 0),(.slice none 0 0)] [(0,2,(.s 36)),(2,1,(.s 40)),(3,1,(.s 44))],none⟩,
 ⟨some 4,.alloc [(.int .i64 0),(.slice none 0 0),(.slice none 0 0),(.slice none 0 0),(.slice none 0 0)],none⟩,
 oS 5 4 45])
 (.seq (rg [oK 5 1])
 (.seq (.seq (rg [oF 46 0 4,
 oF 47 1 46,
 oL 48 47,
 oE 49 48,
 oK 50 0])
 (.scope (.block 0 (.loop (.seq (rg [oB 51 .lss 50 49])
 (.seq (.cond (.s 51) (.skip)
 (.exit 0))
 (.seq (.block 1 (.seq (rg [oM 52 50,
 oI 53 3 48 50,
 oN 54 3 53,
 ⟨some 7,.alloc [(.int .i64 0),(.slice none 0 0),(.slice none 0 0)],none⟩,
 oM 6 52,
 oS 3 7 54])
 (.seq (.seq (.scope (rg [oF 55 0 7,
 oL 56 55,
 oD 57 .lss 56 1,
 oM 58 57,
 oFg 59 0 7 58 false,
 oLg 60 59 58 false,
 oDg 61 .gtr 60 4 58 false,
 oP 62 58 61]))
 (.cond (.s 62) (.seq (rg [⟨some 63,.build [(.int .i64 0),(.slice none 0 0),(.slice none 0 0),(.slice none 0 0),(.slice none 0 0)] [],none⟩,
 oS 5 2 63,
 oK 3 50])
 (.ret))
 (.skip)))
 (.seq (rg [oF 64 2 4,
 oL 65 64,
 oM 66 6,
 oF 67 0 7,
 oL 68 67,
 oI 69 1 65 66,
 oS 1 69 68])
 (rg [oM 70 5,
 oF 71 0 7,
 oL 72 71,
 oB 73 .mul 70 72,
 oM 5 73])))))
 (rg [oD 74 .add 50 1,
 oM 50 74]))))))))
 (.seq (.seq (rg [oM 75 5,
 oD 76 .gtr 75 1024])
 (.cond (.s 76) (.seq (rg [⟨some 77,.build [(.int .i64 0),(.slice none 0 0),(.slice none 0 0),(.slice none 0 0),(.slice none 0 0)] [],none⟩,
 oS 5 2 77,
 oK 3 50])
 (.ret))
 (.skip)))
 (.seq (.seq (rg [oF 78 0 4,
 oF 79 1 78,
 oL 80 79,
 oE 81 80,
 oK 82 0])
 (.scope (.block 2 (.loop (.seq (rg [oB 83 .lss 82 81])
 (.seq (.cond (.s 83) (.skip)
 (.exit 2))
 (.seq (.block 3 (.seq (rg [oM 84 82,
 oI 85 3 80 82,
 oN 86 3 85,
 ⟨some 9,.alloc [(.int .i64 0),(.slice none 0 0),(.slice none 0 0)],none⟩,
 oM 8 84,
 oS 3 9 86])
 (.seq (rg [⟨some 10,.mov (.c (.int .i64 (-1))),none⟩])
 (.seq (.seq (rg [oF 87 1 9,
 oL 88 87,
 oE 89 88,
 oK 90 0])
 (.scope (.block 4 (.loop (.seq (rg [oB 91 .lss 90 89])
 (.seq (.cond (.s 91) (.skip)
 (.exit 4))
 (.seq (.block 5 (.seq (rg [oI 92 1 88 90,
 oL 93 92,
 oM 12 93])
 (.seq (.seq (.scope (rg [oM 94 12,
 oM 95 10,
 oB 96 .leq 94 95,
 oM 97 96,
 oMg 98 12 97 false,
 oFg 99 0 4 97 false,
 oFg 100 1 99 97 false,
 oLg 101 100 97 false,
 ⟨some 102,.len (.s 101),some (97,false)⟩,
 ⟨some 103,.bin .geq (.s 98) (.s 102),some (97,false)⟩,
 oP 104 97 103,
 oM 105 104,
 oMg 106 12 105 false,
 oMg 107 8 105 false,
 ⟨some 108,.bin .eql (.s 106) (.s 107),some (105,false)⟩,
 oP 109 105 108]))
 (.cond (.s 109) (.seq (rg [⟨some 110,.build [(.int .i64 0),(.slice none 0 0),(.slice none 0 0),(.slice none 0 0),(.slice none 0 0)] [],none⟩,
 oS 5 2 110,
 oK 3 50])
 (.ret))
 (.skip)))
 (.seq (rg [oM 111 12,
 oM 10 111])
 (.reg true false [oF 112 3 4,
 oL 113 112,
 oM 114 8,
 oI 115 1 113 114,
 oL 116 115,
 oM 117 12,
 ⟨some 118,.bin .shl (.c (.int .u64 1)) (.s 117),none⟩,
 oB 119 .or 116 118,
 oI 120 1 113 114,
 oS 1 120 119])))))
 (rg [oD 121 .add 90 1,
 oM 90 121]))))))))
 (.seq (rg [oN 122 5 4,
 oN 123 3 9,
 oV 124 133 122 123,
 ⟨some 125,.un .not (.s 124),none⟩])
 (.cond (.s 125) (.seq (rg [⟨some 126,.build [(.int .i64 0),(.slice none 0 0),(.slice none 0 0),(.slice none 0 0),(.slice none 0 0)] [],none⟩,
 oS 5 2 126,
 oK 3 50])
 (.ret))
 (.skip)))))))
 (rg [oD 127 .add 82 1,
 oM 82 127]))))))))
 (.seq (rg [oF 129 3 4,
 oL 130 129,
 oU 131 134 130,
 oM 128 131,
 oX 132 128 0,
 oX 133 128 1,
 oM 13 132,
 oM 14 133])
 (.seq (.seq (rg [oM 134 14,
 ⟨some 135,.un .not (.s 134),none⟩])
 (.cond (.s 135) (.seq (rg [⟨some 136,.build [(.int .i64 0),(.slice none 0 0),(.slice none 0 0),(.slice none 0 0),(.slice none 0 0)] [],none⟩,
 oS 5 2 136,
 oK 3 50])
 (.ret))
 (.skip)))
 (.seq (rg [oM 137 13,
 oF 138 4 4,
 oS 1 138 137])
 (.seq (rg [oN 139 5 4,
 oS 5 2 139,
 oK 3 0])
 (.ret)))))))))))
theorem zmm:zlG mC 115=some (140,zj7,[.cell 2 (some 5),.tmp 3],false):=zcr (by kernel_rfl)
variable{p0:S_api_Net}
theorem zgh{r:(S_net_network×Int)}(h:zc0 p0=some r):Lx.FnA mC 115 [(.agg [(dI p0.grain),(fzE false zad p0.nodes)])] (.tup [(.agg [(dI r.1.net.grain),(fzE false zad r.1.net.nodes),(fzE false (eI .i64) r.1.cards),(fzE false (eI .u64) r.1.sets),(fzE false (eI .i64) r.1.order)]),(dI r.2)]):=by
 refine FnA.of zmm (zbG rfl) (qah rfl) ?_;unfold zc0 at h;simp only[zj7,zqj];refine wSM ?_;obtain⟨o1,j1,h⟩:=bsM h;obtain⟨T1,hT1⟩:=mkT λa:Bool=>⟨140,[(1,(.ptr 0 0)),(2,(.ptr 1 0)),(34,(dB a))],[.cells [(dI p0.grain),(fzE false zad p0.nodes)],.cells [(dI 0),zfy,zfy,zfy,zfy]]⟩
 refine EvL.jn T1 _ (bJM j1 hT1) ?_;rintro v34 rfl;refine wTM hT1 ?_;refine cBM h (λ_ h=>?_) λ_ h=>?_
 .obtain⟨y5,g6,h⟩:=bsM h;refine zxN ((zaK g6).1.1) ((zaK g6).1.2) @qbC (miM g6) (muM g6) ?_;obtain⟨o5,j5,h⟩:=bsM h;obtain⟨T5,hT5⟩:=zdD hT1 λa:(Int×(List Int))=>uKM (T1 v34) [2] [(4,(.ptr 4 0)),(5,(dI a.1))] [(0,.gone)] [.els 1 (a.2.map ((eI .i64).c true)),.els 1 (y5.map ((eI .u64).c true)),.cells [(dI p0.grain),(fzE false zad p0.nodes),(.sl 2 0 1 (Int.toNat (p0.nodes.length:Int)) (some (Int.toNat (p0.nodes.length:Int))) (Int.toNat (p0.nodes.length:Int))),(.sl 3 0 1 (Int.toNat (p0.nodes.length:Int)) (some (Int.toNat (p0.nodes.length:Int))) (Int.toNat (p0.nodes.length:Int))),zfy]]
  refine EvL.jn T5 (λa=>o5=.go a/\a.2.length=(Int.toNat (p0.nodes.length:Int))) ?_ ?_
  .refine wSM ?_;obtain⟨T8,hT8⟩:=zdD hT1 λa:(Int×Int×(List Int))=>uKM (T1 v34) [2] [(4,(.ptr 4 0)),(5,(dI a.1)),(48,(fzE false zad p0.nodes)),(49,(dI (p0.nodes.length:Int))),(50,(dI a.2.1))] [(0,.gone)] [.els 1 (a.2.2.map ((eI .i64).c true)),.els 1 (y5.map ((eI .u64).c true)),.cells [(dI p0.grain),(fzE false zad p0.nodes),(.sl 2 0 1 (Int.toNat (p0.nodes.length:Int)) (some (Int.toNat (p0.nodes.length:Int))) (Int.toNat (p0.nodes.length:Int))),(.sl 3 0 1 (Int.toNat (p0.nodes.length:Int)) (some (Int.toNat (p0.nodes.length:Int))) (Int.toNat (p0.nodes.length:Int))),zfy]]
   refine rdM hT8 (λn a=>zcy p0 n a.1 a.2.1 a.2.2=some o5/\a.2.2.length=(Int.toNat (p0.nodes.length:Int))) (1,0,y5) ⟨j5,zbB g6⟩ ?_;rintro n ⟨v5,v50,l2⟩ ⟨j5,el2⟩;simp only[zcy]at j5;refine wTM hT8 ?_;refine cBM j5 (λ_ j5=>?_) λ_ j5=>?_
   .obtain rfl:=qal j5;exact zdk hT5 _ ⟨rfl,el2⟩
   obtain⟨x8,g9,j5⟩:=bsM j5;refine zku @zal (zao (n:=3) (e:=zad) rfl g9) ?_;obtain⟨o9,j9,j5⟩:=bsM j5;obtain⟨T9,hT9⟩:=zdD hT8 λa:Bool=>uDM (T8 (v5,v50,l2)) [] [(6,(dI v50)),(7,(.ptr 5 0)),(62,(dB a))] [] [.cells [(dI x8.card),(fzE false (eI .i64) x8.parents),(fzE false (eL (eI .i64)) x8.rows)]]
   refine EvL.jn T9 _ (bJM j9 hT9) ?_;rintro v62 rfl;refine wTM hT9 ?_;refine cBM j5 (λ_ j5=>?_) λ_ j5=>?_
   .obtain⟨x12,g13,j5⟩:=bsM j5;obtain⟨y14,g15,j5⟩:=bsM j5;refine zxN el2 (zaL g13) (ltM el2 g13) (giM g13) (siM g15) ?_;exact zdk hT8 ((w64 (v5 * x8.card)),(w64 (v50+1)),y14) ⟨j5,(za4 g15).trans el2⟩
   obtain rfl:=qal j5;exact rHM h
  rintro⟨v5,l2⟩ ⟨rfl,el2⟩;dsimp only at h;refine wTM hT5 ?_;refine cBM h (λ_ h=>?_) λ_ h=>?_
  .obtain⟨o34,j34,h⟩:=bsM h;obtain⟨T34,hT34⟩:=zdD hT5 λa:(List Int)=>uDM (T5 (v5,l2)) [5] [] [(3,.els 1 (a.map ((eI .u64).c true)))] []
   refine EvL.jn T34 (λa=>o34=.go a/\a.length=(Int.toNat (p0.nodes.length:Int))) ?_ ?_
   .refine wSM ?_;obtain⟨T51,hT51⟩:=zdD hT5 λa:(Int×(List Int))=>uDM (T5 (v5,l2)) [5] [(80,(fzE false zad p0.nodes)),(81,(dI (p0.nodes.length:Int))),(82,(dI a.1))] [(3,.els 1 (a.2.map ((eI .u64).c true)))] []
    refine rdM hT51 (λn a=>zcA p0 l2 n a.1 a.2=some o34/\a.2.length=(Int.toNat (p0.nodes.length:Int))) (0,y5) ⟨j34,zbB g6⟩ ?_;rintro n ⟨v82,l3⟩ ⟨j34,el3⟩;simp only[zcA]at j34;refine wTM hT51 ?_;refine cBM j34 (λ_ j34=>?_) λ_ j34=>?_
    .obtain rfl:=qal j34;exact zdk hT34 _ ⟨rfl,el3⟩
    obtain⟨x18,g19,j34⟩:=bsM j34;refine zku @zal (zao (n:=3) (e:=zad) rfl g19) ?_;obtain⟨o55,j55,j34⟩:=bsM j34;obtain⟨T55,hT55⟩:=zdD hT51 λa:(List Int)=>uDM (T51 (v82,l3)) [] [(9,(.ptr 5 0))] [(3,.els 1 (a.map ((eI .u64).c true)))] [.cells [(dI x18.card),(fzE false (eI .i64) x18.parents),(fzE false (eL (eI .i64)) x18.rows)]]
    refine EvL.jn T55 (λa=>o55=.go a/\a.length=(Int.toNat (p0.nodes.length:Int))) ?_ ?_
    .refine wSM ?_;obtain⟨T58,hT58⟩:=zdD hT51 λa:(Int×Int×(List Int))=>uDM (T51 (v82,l3)) [] [(8,(dI v82)),(9,(.ptr 5 0)),(10,(dI a.1)),(88,(fzE false (eI .i64) x18.parents)),(89,(dI (x18.parents.length:Int))),(90,(dI a.2.1))] [(3,.els 1 (a.2.2.map ((eI .u64).c true)))] [.cells [(dI x18.card),(fzE false (eI .i64) x18.parents),(fzE false (eL (eI .i64)) x18.rows)]]
     refine rdM hT58 (λn a=>zc8 x18 p0 v82 n a.1 a.2.1 a.2.2=some o55/\a.2.2.length=(Int.toNat (p0.nodes.length:Int))) ((-1),0,l3) ⟨j55,el3⟩ ?_;rintro n ⟨v10,v90,l3'⟩ ⟨j55,el3'⟩;simp only[zc8]at j55;refine wTM hT58 ?_;refine cBM j55 (λ_ j55=>?_) λ_ j55=>?_
     .obtain rfl:=qal j55;exact zdk hT55 _ ⟨rfl,el3'⟩
     obtain⟨x21,g22,j55⟩:=bsM j55;refine sXM (ixM g22) ?_;obtain⟨o59,j59,j55⟩:=bsM j55;obtain⟨T59,hT59⟩:=zdD hT58 λa:Bool=>uDM (T58 (v10,v90,l3')) [10] [(12,(dI x21)),(109,(dB a))] [] []
     refine EvL.jn T59 _ (bJM j59 hT59) ?_;rintro v109 rfl;refine wTM hT59 ?_;refine cBM j55 (λ_ j55=>?_) λ_ j55=>?_
     .obtain⟨x26,g27,j55⟩:=bsM j55;obtain⟨q28,g29,j55⟩:=bsM j55;obtain⟨y30,g31,j55⟩:=bsM j55;refine ziz el3' (zaL g27) (ltM el3' g27) (guM g27) ((zdj g29).1) (anM ((zdj g29).2) (suM g31)) ?_;exact zdk hT58 (x21,(w64 (v90+1)),y30) ⟨j55,(za4 g31).trans el3'⟩
     obtain rfl:=qal j55;obtain rfl:=qal j34;exact rHM h
    rintro l3' ⟨rfl,el3'⟩;dsimp only at j34;refine wTM hT55 ?_;obtain⟨r32,g33,j34⟩:=bsM j34;refine sSM ?_;refine fCM (zft g33) ?_;refine cBM j34 (λ_ j34=>?_) λ_ j34=>?_
    .obtain rfl:=qal j34;exact rHM h
    exact zdk hT51 ((w64 (v82+1)),l3') ⟨j34,el3'⟩
   rintro l3 ⟨rfl,el3⟩;dsimp only at h;refine wTM hT34 ?_;obtain⟨r35,g36,h⟩:=bsM h;refine sSM ?_;refine fCM (zll g36) ?_;refine cBM h (λ_ h=>?_) λ_ h=>?_
   .exact rHM h
   exact rHM h
  exact rHM h
 exact rHM h
def zb2(p0:(List Int))(p1:Int):Option ((List Int)×Int):=
(zbW p0).bind λr1=>
bif r1.2 then(
((bif (decide (p1<0))then(
some true)
else(
some (decide (r1.1<=p1))):Option Bool)).bind λv21=>
bif v21 then(
some ([],2))
else(
(zee p0 r1.1 p1).bind λr6=>
(zbU (p0.length:Int) r6).bind λr8=>
some (r8,0)))
else(
some ([],20))
variable{p1:Int}{r:((List Int)×Int)}
theorem zfs{p0:(List Int)}(h:zb2 p0 p1=some r):Lx.Fn mC 116 [(fzE false (eI .i64) p0),(dI p1)] (.tup [(fzE true (eI .i64) r.1),(dI r.2)]):=by
 refine gnO ?_;unfold zb2 at h;refine zab ?_;obtain⟨r1,g2,h⟩:=bsM h;refine sSM ?_;refine fCM (zfY g2) ?_;refine cBM h (λ_ h=>?_) λ_ h=>?_
 .exact rHM h
 obtain⟨o1,j1,h⟩:=bsM h;obtain⟨T1,hT1⟩:=mkT λa:Bool=>⟨29,[(0,(fzE false (eI .i64) p0)),(1,(dI p1)),(6,(dI r1.1)),(21,(dB a))],[]⟩
 refine EvL.jn T1 _ (bJM j1 hT1) ?_;rintro v21 rfl;refine wTM hT1 ?_;refine cBM h (λ_ h=>?_) λ_ h=>?_
 .obtain⟨r6,g7,h⟩:=bsM h;refine sSM ?_;refine fDM (zi6 g7) ?_;obtain⟨r8,g9,h⟩:=bsM h;refine sSM ?_;refine EvL.fn (zfL g9) rfl rfl (.cons (.lit _) (.cons (.clo rfl rfl (Snps.get .nil) (Snps.get (.cons (.fptr (λh=>nomatch h) rfl ((eI .i64).snp (t:=false) (t':=false) r6.2.2 (λh=>nomatch h)).get) (.cons (.fptr (λh=>nomatch h) rfl ((eI .i64).snp (t:=false) (t':=false) r6.2.1 (λh=>nomatch h)).get) (.cons (.fptr (λh=>nomatch h) rfl ((eL (eI .i64)).snp (t:=false) (t':=false) r6.1 (λh=>nomatch h)).get) .nil))))) .nil)) ?_;refine sSM ?_;exact rHM h
 exact rHM h
def zci(x8:S_api_Node)(r1:(S_net_network×Int))(r4:((List Int)×Int)):Nat->Int->Int->Option Int
 | 0,_,_=>none
 | n+1,v12,v45=>(
bif (decide (v45<(x8.parents.length:Int)))then(
(zaC x8.parents v45).bind λx11=>
(zaC r1.1.cards x11).bind λx13=>
(zaC r4.1 x11).bind λx15=>
zci x8 r1 r4 n (w64 ((w64 (v12 * x13))+x15)) (w64 (v45+1)))
else(
some v12))
def zcf(r1:(S_net_network×Int))(r4:((List Int)×Int)):Nat->Int->Int->Option Int
 | 0,_,_=>none
 | n+1,v9,v37=>(
bif (decide (v37<(r1.1.net.nodes.length:Int)))then(
(zaC r1.1.net.nodes v37).bind λx8=>
((zci x8 r1 r4 ((x8.parents.length:Int) - 0+2:Int).toNat 0 0:Option Int)).bind λv12=>
(zaC x8.rows v12).bind λx17=>
(zaC r4.1 v37).bind λx19=>
(zaC x17 x19).bind λx21=>
zcf r1 r4 n (w64 (v9 * x21)) (w64 (v37+1)))
else(
some v9))
def zbQ(p0:S_api_Net)(p1:Int):Option (Int×Int):=
(zc0 p0).bind λr1=>
bif (r1.2 == 0)then(
(zb2 r1.1.cards p1).bind λr4=>
bif (r4.2 == 0)then(
((zcf r1 r4 ((r1.1.net.nodes.length:Int) - 0+2:Int).toNat 1 0:Option Int)).bind λv9=>
some (v9,0))
else(
some (0,r4.2)))
else(
some (0,r1.2))
def zhE:C:=
 .seq (rg [oW 2 0,
 oK 4 0,
 oK 5 0])
 (.seq (rg [oN 16 2 2,
 oU 17 115 16,
 oM 15 17,
 oX 18 15 0,
 oX 19 15 1,
 ⟨some 6,.alloc [(.int .i64 0),(.slice none 0 0),(.slice none 0 0),(.slice none 0 0),(.slice none 0 0)],none⟩,
 oS 5 6 18,
 oM 7 19])
 (.seq (.seq (rg [oM 20 7,
 oD 21 .neq 20 0])
 (.cond (.s 21) (.seq (rg [oM 22 7,
 oK 4 0,
 oM 5 22])
 (.ret))
 (.skip)))
 (.seq (rg [oF 24 2 6,
 oL 25 24,
 oM 26 1,
 oV 27 116 25 26,
 oM 23 27,
 oX 28 23 0,
 oX 29 23 1,
 oM 8 28,
 oM 7 29])
 (.seq (.seq (rg [oM 30 7,
 oD 31 .neq 30 0])
 (.cond (.s 31) (.seq (rg [oM 32 7,
 oK 4 0,
 oM 5 32])
 (.ret))
 (.skip)))
 (.seq (rg [oK 9 1])
 (.seq (.seq (rg [oF 33 0 6,
 oF 34 1 33,
 oL 35 34,
 oE 36 35,
 oK 37 0])
 (.scope (.block 0 (.loop (.seq (rg [oB 38 .lss 37 36])
 (.seq (.cond (.s 38) (.skip)
 (.exit 0))
 (.seq (.block 1 (.seq (rg [oM 39 37,
 oI 40 3 35 37,
 oN 41 3 40,
 ⟨some 11,.alloc [(.int .i64 0),(.slice none 0 0),(.slice none 0 0)],none⟩,
 oM 10 39,
 oS 3 11 41])
 (.seq (rg [oK 12 0])
 (.seq (.seq (rg [oF 42 1 11,
 oL 43 42,
 oE 44 43,
 oK 45 0])
 (.scope (.block 2 (.loop (.seq (rg [oB 46 .lss 45 44])
 (.seq (.cond (.s 46) (.skip)
 (.exit 2))
 (.seq (.block 3 (.seq (rg [oI 47 1 43 45,
 oL 48 47,
 oM 14 48])
 (.reg true false [oM 49 12,
 oF 50 2 6,
 oL 51 50,
 oM 52 14,
 oI 53 1 51 52,
 oL 54 53,
 oB 55 .mul 49 54,
 oM 56 8,
 oM 57 14,
 oI 58 1 56 57,
 oL 59 58,
 oB 60 .add 55 59,
 oM 12 60])))
 (rg [oD 61 .add 45 1,
 oM 45 61]))))))))
 (.reg true false [oM 62 9,
 oF 63 2 11,
 oL 64 63,
 oM 65 12,
 oI 66 1 64 65,
 oL 67 66,
 oM 68 8,
 oM 69 10,
 oI 70 1 68 69,
 oL 71 70,
 oI 72 1 67 71,
 oL 73 72,
 oB 74 .mul 62 73,
 oM 9 74])))))
 (rg [oD 75 .add 37 1,
 oM 37 75]))))))))
 (.seq (rg [oM 76 9,
 oM 4 76,
 oK 5 0])
 (.ret))))))))
theorem zjh:zlG mC 72=some (77,zhE,[.tmp 4,.tmp 5],false):=zcr (by kernel_rfl)
theorem zkp{r:(Int×Int)}(h:zbQ p0 p1=some r):Lx.Fn mC 72 [(.agg [(dI p0.grain),(fzE false zad p0.nodes)]),(dI p1)] (.tup [(dI r.1),(dI r.2)]):=by
 refine Fn.of zjh (zbG rfl) (qah rfl) ?_;unfold zbQ at h;simp only[zhE,zqj];refine zab ?_;obtain⟨r1,g2,h⟩:=bsM h;refine sSM ?_;refine fDM (zgh g2) ?_;refine cBM h (λ_ h=>?_) λ_ h=>?_
 .exact rHM h
 obtain⟨r4,g5,h⟩:=bsM h;refine sSM ?_;refine fCM (zfs g5) ?_;refine cBM h (λ_ h=>?_) λ_ h=>?_
 .exact rHM h
 obtain⟨o7,j7,h⟩:=bsM h;obtain⟨T7,hT7⟩:=mkT λa:Int=>⟨77,[(9,(dI a))],[]⟩
 refine EvL.jn T7 (λa=>a=o7) ?_ ?_
 .refine wSM ?_;obtain⟨T12,hT12⟩:=mkT λa:(Int×Int)=>⟨77,[(6,(.ptr 1 0)),(8,(fzE true (eI .i64) r4.1)),(9,(dI a.1)),(35,(fzE false zad r1.1.net.nodes)),(36,(dI (r1.1.net.nodes.length:Int))),(37,(dI a.2))],[.gone,.cells [(dI r1.1.net.grain),(fzE false zad r1.1.net.nodes),(fzE false (eI .i64) r1.1.cards),(fzE false (eI .u64) r1.1.sets),(fzE false (eI .i64) r1.1.order)]]⟩
  refine rdM hT12 (λn a=>zcf r1 r4 n a.1 a.2=some o7) (1,0) j7 ?_;rintro n ⟨v9,v37⟩ j7;simp only[zcf]at j7;refine wTM hT12 ?_;refine cBM j7 (λ_ j7=>?_) λ_ j7=>?_
  .exact zeV j7 hT7
  obtain⟨x8,g9,j7⟩:=bsM j7;refine zku @zal (zao (n:=3) (e:=zad) rfl g9) ?_;obtain⟨o13,j13,j7⟩:=bsM j7;obtain⟨T13,hT13⟩:=zdD hT12 λa:Int=>uDM (T12 (v9,v37)) [] [(10,(dI v37)),(11,(.ptr 2 0)),(12,(dI a))] [] [.cells [(dI x8.card),(fzE false (eI .i64) x8.parents),(fzE false (eL (eI .i64)) x8.rows)]]
  refine EvL.jn T13 (λa=>a=o13) ?_ ?_
  .refine wSM ?_;obtain⟨T14,hT14⟩:=zdD hT12 λa:(Int×Int)=>uDM (T12 (v9,v37)) [] [(10,(dI v37)),(11,(.ptr 2 0)),(12,(dI a.1)),(43,(fzE false (eI .i64) x8.parents)),(44,(dI (x8.parents.length:Int))),(45,(dI a.2))] [] [.cells [(dI x8.card),(fzE false (eI .i64) x8.parents),(fzE false (eL (eI .i64)) x8.rows)]]
   refine rdM hT14 (λn a=>zci x8 r1 r4 n a.1 a.2=some o13) (0,0) j13 ?_;rintro n ⟨v12,v45⟩ j13;simp only[zci]at j13;refine wTM hT14 ?_;refine cBM j13 (λ_ j13=>?_) λ_ j13=>?_
   .exact zeV j13 hT13
   obtain⟨x11,g12,j13⟩:=bsM j13;obtain⟨x13,g14,j13⟩:=bsM j13;obtain⟨x15,g16,j13⟩:=bsM j13;refine zu2 (ixM g12) (ixM g14) (ixM g16) ?_;exact zdk hT14 ((w64 ((w64 (v12 * x13))+x15)),(w64 (v45+1))) j13
  rintro v12 rfl;refine wTM hT13 ?_;obtain⟨x17,g18,j7⟩:=bsM j7;obtain⟨x19,g20,j7⟩:=bsM j7;obtain⟨x21,g22,j7⟩:=bsM j7;refine zu2 (zao (n:=1) (e:=(eL (eI .i64))) rfl g18) (ixM g20) (ixM g22) ?_;exact zdk hT12 ((w64 (v9 * x21)),(w64 (v37+1))) j7
 rintro v9 rfl;refine wTM hT7 ?_;exact rHM h
def zbO(p0:S_api_Net)(p1:Int):Option ((List Int)×Int):=
(zc0 p0).bind λr1=>
bif (r1.2 == 0)then(
(zb2 r1.1.cards p1).bind λr4=>
some (r4.1,r4.2))
else(
some ([],r1.2))
theorem zkS(h:zbO p0 p1=some r):Lx.Fn mC 73 [(.agg [(dI p0.grain),(fzE false zad p0.nodes)]),(dI p1)] (.tup [(fzE true (eI .i64) r.1),(dI r.2)]):=by
 refine gnO ?_;unfold zbO at h;refine zab ?_;obtain⟨r1,g2,h⟩:=bsM h;refine zku @zal @zaP ?_;refine fDM (zgh g2) ?_;refine zku @zal @zaP ?_;refine cBM h (λc3 h=>?_) λc3 h=>?_
 .refine zu2 @zal @zaP c3 ?_;exact rHM h
 obtain⟨r4,g5,h⟩:=bsM h;refine zu2 @zal @zaP c3 ?_;refine fCM (zfs g5) ?_;refine zu2 @zal @zaP c3 ?_;exact rHM h
def zdp(p0:S_api_Net):Option (Int×Int):=
(zc0 p0).bind λr1=>
bif (r1.2 == 0)then(
(zdq r1.1.cards).bind λr4=>
some (r4.1,r4.2))
else(
some (0,r1.2))
theorem zlb{r:(Int×Int)}(h:zdp p0=some r):Lx.Fn mC 71 [(.agg [(dI p0.grain),(fzE false zad p0.nodes)])] (.tup [(dI r.1),(dI r.2)]):=by
 refine gnO ?_;unfold zdp at h;refine zab ?_;obtain⟨r1,g2,h⟩:=bind_some h;try simp only[rnA,Nat.reduceEqDiff,reduceIte,Nat.reduceLT,Nat.reduceAdd,Nat.reduceLeDiff,Nat.reduceMul,Nat.reduceSub,Int.reduceLE,Int.reduceLT,Int.reduceBEq,Nat.reduceBEq,reduceCtorEq,zal,zaP,za6]
 refine EvL.fnS (zgh g2) rfl rfl (.cons (Mzs.agg (.cons (.lit _) (.cons (zms _ _ (λh=>by cases h<;>contradiction)) .nil))) .nil) ⟨⟨qdk,(zgz _ _),qdk⟩,qdk⟩ ⟨⟨qdk,(zgz _ _),(zgz _ _),(zgz _ _),(zgz _ _),qdk⟩,qdk,qdk⟩ ?_;try simp only[rnA,Nat.reduceEqDiff,reduceIte,Nat.reduceLT,Nat.reduceAdd,Nat.reduceLeDiff,Nat.reduceMul,Nat.reduceSub,Int.reduceLE,Int.reduceLT,Int.reduceBEq,Nat.reduceBEq,reduceCtorEq,zal,zaP]
 cases c3:(r1.2 == 0)
 .rw[c3,qdm]at h;try simp only[rnA,Nat.reduceEqDiff,reduceIte,Nat.reduceLT,Nat.reduceAdd,Nat.reduceLeDiff,Nat.reduceMul,Nat.reduceSub,Int.reduceLE,Int.reduceLT,Int.reduceBEq,Nat.reduceBEq,reduceCtorEq,zal,zaP,c3]
  replace h:=qal h; subst h;exact zg4.ret rfl (Snp.zrr (.cons (.lit _) (.cons (.lit _) .nil)))
 rw[c3,qdl]at h;obtain⟨r4,g5,h⟩:=bind_some h;try simp only[rnA,Nat.reduceEqDiff,reduceIte,Nat.reduceLT,Nat.reduceAdd,Nat.reduceLeDiff,Nat.reduceMul,Nat.reduceSub,Int.reduceLE,Int.reduceLT,Int.reduceBEq,Nat.reduceBEq,reduceCtorEq,zal,zaP,c3]
 refine EvL.fn (zkU g5) rfl rfl (.cons (zbL _ _ (λh=>nomatch h)) .nil) ?_;try simp only[rnA,Nat.reduceEqDiff,reduceIte,Nat.reduceLT,Nat.reduceAdd,Nat.reduceLeDiff,Nat.reduceMul,Nat.reduceSub,Int.reduceLE,Int.reduceLT,Int.reduceBEq,Nat.reduceBEq,reduceCtorEq,zal,zaP,c3]
 replace h:=qal h; subst h;exact zg4.ret rfl (Snp.zrr (.cons (.lit _) (.cons (.lit _) .nil)))
end Go.Dc
