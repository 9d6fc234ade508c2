/-
 What l03_FactorKeeps computes. Conditions: none.
-/
import Derived.Test.YtnfgibomhkbcpaaFkJ6
set_option linter.unusedSimpArgs false
set_option linter.unusedVariables false
set_option maxRecDepth 100000
set_option maxHeartbeats 4000000
namespace Go.Dc
open Go Go.Mx Go.Lx Go.Proofs
def zaZ(x11:S_api_Factor)(p3:Int):Nat→Int→(List Int)→Option (List Int)
 | 0,_,_=>none
 | n+1,v47,l1=>(
bif (decide (v47<(x11.vars.length:Int)))then(
(za4 x11.vars v47).bind fun x14=>
(zmH .u8 p3 v47).bind fun q16=>
((bif ((znr .u8 q16 1)== 1)then(
(zfB 8 l1 [x14]).bind fun y19=>
some y19)
else(
some l1):Option (List Int))).bind fun l1'=>
zaZ x11 p3 n (w64 (v47+1)) l1')
else(
some l1))
def zaN(x37:(List Int)):Nat→Int→Int→Option Int
 | 0,_,_=>none
 | n+1,v23,v116=>(
bif (decide (v116<(x37.length:Int)))then(
((bif (decide (0<v116))then(
(za4 x37 v116).bind fun x43=>
(za4 x37 (w64 (v116 - 1))).bind fun x45=>
some (decide (x43≤x45)))
else(
some false):Option Bool)).bind fun v132=>
((bif v132 then(
some 2)
else(
some v23):Option Int)).bind fun v23'=>
zaN x37 n v23' (w64 (v116+1)))
else(
some v23))
def zaA(x37:(List Int))(x11:S_api_Factor):Nat→Int→Int→Option Int
 | 0,_,_=>none
 | n+1,v23',v136=>(
bif (decide (v136<(x37.length:Int)))then(
(za4 x37 v136).bind fun x49=>
((bif (v23' == 0)then(
(zcr x11 x49).bind fun r52=>
some (decide (r52<0)))
else(
some false):Option Bool)).bind fun v147=>
((bif v147 then(
some 4)
else(
some v23'):Option Int)).bind fun v23''=>
zaA x37 x11 n v23'' (w64 (v136+1)))
else(
some v23'))
def zaO(y4:(List Int))(l1:(List Int))(x11:S_api_Factor):Nat→Bool→Int→Option (Out Unit Bool)
 | 0,_,_=>none
 | n+1,v16',v105=>(
bif (decide (v105<2))then(
(((za4 [y4,l1] v105).bind fun x37=>
(zaM x11 x37).bind fun r39=>
((zaN x37 ((x37.length:Int) - 0+2:Int).toNat 0 0:Option Int)).bind fun v23=>
((zaA x37 x11 ((x37.length:Int) - 0+2:Int).toNat v23 0:Option Int)).bind fun v23'=>
((bif v16' then(
some (true,v23'))
else(
some (false,30)):Option ((Bool×Int)))).bind fun o=>match o with
|(v16'',v23'')=>(
bif (v23'' == 0)then(
(zee x11 x37).bind fun r60=>
(zdO r60.2).bind fun r62=>
(zcF r39.1 r39.2 r60.1 r62).bind fun r64=>
bif r64 then(
some (.go v16''))
else(
some (.ret false)))
else(
(zcF r39.1 r39.2 r39.1 v23'').bind fun r57=>
bif r57 then(
some (.go v16''))
else(
some (.ret false)))):Option (Out Bool Bool))).bind fun o=>match o with
| .go v16''=>(
zaO y4 l1 x11 n v16'' (w64 (v105+1)))
| .ret r=>some (.ret r))
else(
some (.go ())))
def zaP(r6:S_api_Factor)(r8:S_api_Factor)(p3:Int)(y4:(List Int)):Nat→Int→Option (Out Unit Bool)
 | 0,_=>none
 | n+1,v41=>(
bif (decide (v41<2))then(
(za4 [r6,r8] v41).bind fun x11=>
((zaZ x11 p3 ((x11.vars.length:Int) - 0+2:Int).toNat 0 []:Option (List Int))).bind fun l1=>
(zbm x11).bind fun r21=>
(zdP x11).bind fun r23=>
((bif r23 then(
(zdC x11).bind fun r28=>
(((zdO r28.2).bind fun r30=>
bif (r21.2 == r30)then(
bif r28.2 then(
bif (r21.1 == r28.1)then(
some false)
else(
some true))
else(
some (!(r21.1 == 0))))
else(
some true):Option Bool)).bind fun v101=>
bif v101 then(
some (.ret false))
else(
some (.go true)))
else(
((bif (r21.1 == 0)then(
some (!(r21.2 == 30)))
else(
some true):Option Bool)).bind fun v76=>
bif v76 then(
some (.ret false))
else(
some (.go false))):Option (Out Bool Bool))).bind fun o=>match o with
| .go v16=>(
((zaO y4 l1 x11 (2 - 0+2:Int).toNat v16 0:Option (Out Unit Bool))).bind fun o=>match o with
| .go _=>(
zaP r6 r8 p3 y4 n (w64 (v41+1)))
| .ret r=>some (.ret r))
| .ret r=>some (.ret r))
else(
some (.go ())))
def zcf(N:Nat)(p0:S_api_Factor)(p1:(List Int))(p2:S_haruspexref03_Draft)(p3:Int):Option Bool:=
(zcX).bind fun r1=>
bif r1 then(
(zfo p1 0 (zlO (p1.length:Int) 5)).bind fun y4=>
(zeT p0).bind fun r6=>
(zbg N p2).bind fun r8=>
((zaP r6 r8 p3 y4 (2 - 0+2:Int).toNat 0:Option (Out Unit Bool))).bind fun o=>match o with
| .go _=>(
some true)
| .ret r=>some r)
else(
some false)
def zed:C:=
 .seq (rg [oW 4 0,
 oW 6 2,
 oJ 8 false])
 (.seq (.seq (rg [⟨some 29,.call 20 [],none⟩,
 ⟨some 30,.un .not (.s 29),none⟩])
 (.cond (.s 30) (.seq (rg [oJ 8 false])
 (.ret))
 (.skip)))
 (.seq (rg [oM 31 1,
 oM 32 1,
 oE 33 32,
 ⟨some 34,.mm false [(.s 33),(.c (.int .i64 5))],none⟩,
 ⟨some 35,.slc 1 (.s 31) none (some (.s 34)) none,none⟩,
 oM 1 35])
 (.seq (.seq (.reg true true [oN 36 3 4,
 oN 38 3 6,
 oK 41 0,
 oU 37 21 36,
 oU 39 22 38,
 ⟨some 40,.build [(.slice none 0 0),(.slice none 0 0),(.slice none 0 0),(.slice none 0 0),(.slice none 0 0),(.slice none 0 0)] [(0,3,(.s 37)),(3,3,(.s 39))],none⟩])
 (.scope (.block 0 (.loop (.seq (rg [oD 42 .lss 41 2])
 (.seq (.cond (.s 42) (.skip)
 (.exit 0))
 (.seq (.block 1 (.seq (rg [⟨some 43,.idxV (some 3) 2 (.s 40) (.s 41),none⟩,
 ⟨some 10,.alloc [(.slice none 0 0),(.slice none 0 0),(.slice none 0 0)],none⟩,
 oS 3 10 43])
 (.seq (rg [⟨some 11,.mov (.c (.slice none 0 0)),none⟩])
 (.seq (.seq (rg [oF 44 0 10,
 oL 45 44,
 oE 46 45,
 oK 47 0])
 (.scope (.block 2 (.loop (.seq (rg [oB 48 .lss 47 46])
 (.seq (.cond (.s 48) (.skip)
 (.exit 2))
 (.seq (.block 3 (.seq (rg [oM 49 47,
 oI 50 1 45 47,
 oL 51 50,
 oM 12 49,
 oM 13 51])
 (.seq (rg [oM 52 3,
 oM 53 12,
 oB 54 .shr 52 53,
 ⟨some 55,.bin .and (.s 54) (.c (.int .u8 1)),none⟩,
 ⟨some 56,.bin .eql (.s 55) (.c (.int .u8 1)),none⟩])
 (.scope (.cond (.s 56) (rg [oM 57 11,
 oM 58 13,
 ⟨some 59,.bsl 1 1 [(.int .i64 0)] [(0,(.s 58))],none⟩,
 oT 60 1 8 57 59,
 oM 11 60])
 (.skip))))))
 (rg [oD 61 .add 47 1,
 oM 47 61]))))))))
 (.seq (rg [oN 63 3 10,
 oU 64 40 63,
 oM 62 64,
 oX 65 62 0,
 oX 66 62 1,
 oM 14 65,
 oM 15 66])
 (.seq (rg [oN 67 3 10,
 oU 68 23 67,
 oM 16 68])
 (.seq (.seq (rg [oM 69 16,
 ⟨some 70,.un .not (.s 69),none⟩])
 (.scope (.cond (.s 70) (.seq (.scope (rg [oM 71 14,
 oD 72 .neq 71 0,
 oM 73 72,
 oMg 74 15 73 false,
 oDg 75 .neq 74 30 73 false,
 oP 76 73 75]))
 (.cond (.s 76) (.seq (rg [oJ 8 false])
 (.ret))
 (.skip)))
 (.seq (rg [oN 78 3 10,
 oU 79 41 78,
 oM 77 79,
 oX 80 77 0,
 oX 81 77 1,
 oM 17 80,
 oM 18 81])
 (.seq (.scope (rg [oM 82 15,
 oM 83 18,
 oU 84 37 83,
 oB 85 .neq 82 84,
 oM 86 85,
 oMg 87 18 86 false,
 oMg 88 87 86 false,
 oMg 89 14 88 true,
 oMg 90 17 88 true,
 ⟨some 91,.bin .neq (.s 89) (.s 90),some (88,true)⟩,
 ⟨some 92,.pick (.s 88) (.s 91) (.c (.bool false)),some (86,false)⟩,
 oP 93 86 92,
 oM 94 93,
 oMg 95 18 94 false,
 ⟨some 96,.un .not (.s 95),some (94,false)⟩,
 oMg 97 96 94 false,
 oMg 98 14 97 true,
 oDg 99 .neq 98 0 97 true,
 ⟨some 100,.pick (.s 97) (.s 99) (.c (.bool false)),some (94,false)⟩,
 oP 101 94 100]))
 (.cond (.s 101) (.seq (rg [oJ 8 false])
 (.ret))
 (.skip)))))))
 (.seq (rg [oM 102 1,
 oM 103 11,
 ⟨some 104,.build [(.slice none 0 0),(.slice none 0 0)] [(0,1,(.s 102)),(1,1,(.s 103))],none⟩,
 oK 105 0])
 (.scope (.block 4 (.loop (.seq (rg [oD 106 .lss 105 2])
 (.seq (.cond (.s 106) (.skip)
 (.exit 4))
 (.seq (.scope (.block 5 (.seq (rg [⟨some 107,.idxV none 2 (.s 104) (.s 105),none⟩,
 oM 20 107])
 (.seq (rg [oN 109 3 10,
 oM 110 20,
 oV 111 42 109 110,
 oM 108 111,
 oX 112 108 0,
 oX 113 108 1,
 ⟨some 21,.alloc [(.slice none 0 0),(.slice none 0 0),(.slice none 0 0)],none⟩,
 oS 3 21 112,
 oM 22 113])
 (.seq (rg [oK 23 0])
 (.seq (.seq (rg [oM 114 20,
 oE 115 114,
 oK 116 0])
 (.scope (.block 6 (.loop (.seq (rg [oB 117 .lss 116 115])
 (.seq (.cond (.s 117) (.skip)
 (.exit 6))
 (.seq (.block 7 (.seq (rg [oM 118 116,
 oM 24 118])
 (.seq (.scope (.reg true false [oM 119 24,
 oD 120 .gtr 119 0,
 oM 121 120,
 oMg 122 20 121 true,
 oMg 123 24 121 true,
 ⟨some 124,.idxS 1 (.s 122) (.s 123),some (121,true)⟩,
 oLg 125 124 121 true,
 oMg 126 20 121 true,
 oMg 127 24 121 true,
 oDg 128 .sub 127 1 121 true,
 ⟨some 129,.idxS 1 (.s 126) (.s 128),some (121,true)⟩,
 oLg 130 129 121 true,
 ⟨some 131,.bin .leq (.s 125) (.s 130),some (121,true)⟩,
 ⟨some 132,.pick (.s 121) (.s 131) (.c (.bool false)),none⟩]))
 (.scope (.cond (.s 132) (rg [oK 23 2])
 (.skip))))))
 (rg [oD 133 .add 116 1,
 oM 116 133]))))))))
 (.seq (.seq (rg [oM 134 20,
 oE 135 134,
 oK 136 0])
 (.scope (.block 8 (.loop (.seq (rg [oB 137 .lss 136 135])
 (.seq (.cond (.s 137) (.skip)
 (.exit 8))
 (.seq (.block 9 (.seq (rg [oI 138 1 134 136,
 oL 139 138,
 oM 26 139])
 (.seq (.scope (rg [oM 140 23,
 oD 141 .eql 140 0,
 oM 142 141,
 ⟨some 143,.load (some 3) (.s 10),some (142,true)⟩,
 oMg 144 26 142 true,
 ⟨some 145,.call 35 [(.s 143),(.s 144)],some (142,true)⟩,
 oDg 146 .lss 145 0 142 true,
 ⟨some 147,.pick (.s 142) (.s 146) (.c (.bool false)),none⟩]))
 (.scope (.cond (.s 147) (rg [oK 23 4])
 (.skip))))))
 (rg [oD 148 .add 136 1,
 oM 136 148]))))))))
 (.seq (.seq (rg [oM 149 16,
 ⟨some 150,.un .not (.s 149),none⟩])
 (.scope (.cond (.s 150) (rg [oK 23 30])
 (.skip))))
 (.seq (.seq (rg [oM 151 23,
 oD 152 .neq 151 0])
 (.cond (.s 152) (.seq (.seq (rg [oN 153 3 21,
 oM 154 22,
 oN 155 3 21,
 oM 156 23,
 ⟨some 157,.call 27 [(.s 153),(.s 154),(.s 155),(.s 156)],none⟩,
 ⟨some 158,.un .not (.s 157),none⟩])
 (.cond (.s 158) (.seq (rg [oJ 8 false])
 (.ret))
 (.skip)))
 (.exit 5))
 (.skip)))
 (.seq (rg [oN 160 3 10,
 oM 161 20,
 oV 162 43 160 161,
 oM 159 162,
 oX 163 159 0,
 oX 164 159 1,
 ⟨some 27,.alloc [(.slice none 0 0),(.slice none 0 0),(.slice none 0 0)],none⟩,
 oS 3 27 163,
 oM 28 164])
 (.seq (.reg true true [oN 165 3 21,
 oM 166 22,
 oN 167 3 27,
 oM 168 28,
 oU 169 37 168,
 ⟨some 170,.call 27 [(.s 165),(.s 166),(.s 167),(.s 169)],none⟩,
 ⟨some 171,.un .not (.s 170),none⟩])
 (.cond (.s 171) (.seq (rg [oJ 8 false])
 (.ret))
 (.skip)))))))))))))
 (rg [oD 172 .add 105 1,
 oM 105 172])))))))))))))))
 (rg [oD 173 .add 41 1,
 oM 41 173]))))))))
 (.seq (rg [oJ 8 true])
 (.ret)))))
theorem zfw:zgx mC 6=some (174,zed,[.tmp 8],false):=zaV (by kernel_rfl)
theorem zgd{N:Nat}{p0:S_api_Factor}{p1:(List Int)}{p2:S_haruspexref03_Draft}{p3:Int}{r:Bool}(h:zcf N p0 p1 p2 p3=some r):Lx.Fn mC 6 [(.agg [(fzE false (eI .i64) p0.vars),(fzE false (eI .i64) p0.cards),(fzE false (eI .i64) p0.w)]),(fzE false (eI .i64) p1),(.agg [(dU8 p2.which),(fzE false (eI .u8) p2.n),(dB p2.large)]),(dU8 p3)] (dB r):=by
 refine Fn.of zfw (zaR rfl) (qad rfl) ?_;unfold zcf at h;simp only[zed,zi4];refine zaa ?_;obtain⟨r1,g2,h⟩:=bind_some h;try simp only[rnA,Nat.reduceEqDiff,Nat.reduceLT,Nat.reduceAdd,reduceCtorEq]
 refine EvL.fn (zj3 g2) rfl rfl .nil ?_;try simp only[rnA,Nat.reduceEqDiff,Nat.reduceLT,reduceCtorEq]
 cases c3:r1
 ·rw[c3,cond_false]at h;try simp only[rnA,Nat.reduceLT]
  replace h:=qaa h; subst h;exact zbK.ret rfl (.lit _)
 rw[c3,cond_true]at h;obtain⟨y4,g5,h⟩:=bind_some h;obtain⟨r6,g7,h⟩:=bind_some h;try simp only[rnA,Nat.reduceEqDiff,Nat.reduceLT,Nat.reduceAdd,Nat.reduceLeDiff,reduceCtorEq,zav,zmv (n:=1) (e:=(eI .i64)) rfl g5]
 refine EvL.fnS (zm9 g7) rfl rfl (.cons (Mzs.agg (.cons (zae _ _ (fun h=>by cases h<;>contradiction)) (.cons (zae _ _ (fun h=>by cases h<;>contradiction)) (.cons (zae _ _ (fun h=>by cases h<;>contradiction)) .nil)))) .nil) ⟨⟨(zac _ _),(zac _ _),(zac _ _),qca⟩,qca⟩ ⟨(zac _ _),(zac _ _),(zac _ _),qca⟩ ?_;obtain⟨r8,g9,h⟩:=bind_some h;try simp only[rnA,Nat.reduceLT]
 refine EvL.fn (zfC g9) rfl rfl (.cons (.za5 (.cons (.lit _) (.cons (zab _ _ (fun h=>nomatch h)) (.cons (.lit _) .nil)))) .nil) ?_;try simp only[rnA,Nat.reduceEqDiff,Nat.reduceLT,Nat.reduceAdd,Nat.reduceLeDiff,reduceCtorEq]
 obtain⟨o1957,j1957,h⟩:=bind_some h;obtain⟨T1957,hT1957⟩:=mkT fun a:Unit=>⟨174,[],[]⟩
 refine EvL.jn T1957 (fun a=>o1957=.go a) ?_ ?_
 ·refine zaa ?_;simp only[rnA];obtain⟨T3425,hT3425⟩:=mkT fun a:Int=>⟨174,[(1,(fzE false (eI .i64) y4)),(3,(dU8 p3)),(40,(.agg [(fzE false (eI .i64) r6.vars),(fzE false (eI .i64) r6.cards),(fzE false (eI .i64) r6.w),(fzE false (eI .i64) r8.vars),(fzE false (eI .i64) r8.cards),(fzE false (eI .i64) r8.w)])),(41,(dI a))],[]⟩
  refine EvL.rounds (α:=Int) T3425 (fun n a=>zaP r6 r8 p3 y4 n a=some o1957) (2 - 0+2:Int).toNat 0 (by rw[hT3425]; exact zbx.m0 [] rfl (msq (msq (mx rfl (Mo.za5 (.cons (.same trivial) (.cons (.same trivial) (.cons (.same trivial) (.cons (.fr (zae _ _ (fun h=>by cases h<;>contradiction))) (.cons (.fr (zae _ _ (fun h=>by cases h<;>contradiction))) (.cons (.fr (zae _ _ (fun h=>by cases h<;>contradiction))) .nil))))))) (msq trivial)))) trivial) j1957 (fun _ h=>nomatch (show(none:Option (Out Unit Bool))=some o1957 from h)) ?_;rintro n v41 j1957;simp only[zaP]at j1957;rw[congrFun hT3425 v41];refine zaa ?_;try simp only[rnA,Nat.reduceEqDiff,Nat.reduceLT]
  cases c10:(decide (v41<2))
  ·rw[c10,cond_false]at j1957;try simp only[rnA]
   replace j1957:=qaa j1957; subst j1957;exact lfj hT1957 rfl (wm0 [] (by exact trivial))
  rw[c10,cond_true]at j1957;obtain⟨x11,g12,j1957⟩:=bind_some j1957;try simp only[rnA,Nat.reduceEqDiff,Nat.reduceLT,Nat.reduceAdd,Nat.reduceLeDiff,za0 g12,(show v41<((2:Nat):Int)from za2 g12),qbl,(show([(fzE false (eI .i64) r6.vars),(fzE false (eI .i64) r6.cards),(fzE false (eI .i64) r6.w),(fzE false (eI .i64) r8.vars),(fzE false (eI .i64) r8.cards),(fzE false (eI .i64) r8.w)].drop (v41.toNat * 3)).take 3=[(fzE false (eI .i64) x11.vars),(fzE false (eI .i64) x11.cards),(fzE false (eI .i64) x11.w)]from zp8 (e:=zak) (t:=false) rfl g12 rfl),(show v41.toNat * 3+3≤6 from ztr (e:=zak) rfl g12),zav]
  obtain⟨o3430,j3430,j1957⟩:=bind_some j1957;obtain⟨T3430,hT3430⟩:=mkT fun a:(List Int)=>⟨174,[(1,(fzE false (eI .i64) y4)),(3,(dU8 p3)),(10,(.ptr 0 0)),(11,(.sl 1 0 1 a.length none a.length)),(40,(.agg [(fzE false (eI .i64) r6.vars),(fzE false (eI .i64) r6.cards),(fzE false (eI .i64) r6.w),(fzE false (eI .i64) r8.vars),(fzE false (eI .i64) r8.cards),(fzE false (eI .i64) r8.w)])),(41,(dI v41))],[.cells [(fzE false (eI .i64) x11.vars),(fzE false (eI .i64) x11.cards),(fzE false (eI .i64) x11.w)],.grow 1 (a.map ((eI .i64).c true))]⟩
  refine EvL.jn T3430 (fun a=>a=o3430) ?_ ?_
  ·refine zaa ?_;simp only[rnA];obtain⟨T3434,hT3434⟩:=mkT fun a:(Int×(List Int))=>⟨174,[(1,(fzE false (eI .i64) y4)),(3,(dU8 p3)),(10,(.ptr 0 0)),(11,(.sl 1 0 1 a.2.length none a.2.length)),(40,(.agg [(fzE false (eI .i64) r6.vars),(fzE false (eI .i64) r6.cards),(fzE false (eI .i64) r6.w),(fzE false (eI .i64) r8.vars),(fzE false (eI .i64) r8.cards),(fzE false (eI .i64) r8.w)])),(41,(dI v41)),(45,(fzE false (eI .i64) x11.vars)),(46,(dI (x11.vars.length:Int))),(47,(dI a.1))],[.cells [(fzE false (eI .i64) x11.vars),(fzE false (eI .i64) x11.cards),(fzE false (eI .i64) x11.w)],.grow 1 (a.2.map ((eI .i64).c true))]⟩
   refine EvL.zeI (zbx.ghost (n:=1) (k:=11) (by decide) rfl) ?_;refine EvL.rounds (α:=(Int×(List Int))) T3434 (fun n a=>zaZ x11 p3 n a.1 a.2=some o3430) ((x11.vars.length:Int) - 0+2:Int).toNat (0,[]) (by rw[hT3434]; exact wm0 [.k,.k] ⟨MB.cs ⟨qca,qca,qca,qca⟩,⟨MB.gs (eI .i64) true [],qca⟩⟩) j3430 (fun _ h=>nomatch (show(none:Option (List Int))=some o3430 from h)) ?_;rintro n ⟨v47,l1⟩ j3430;simp only[zaZ]at j3430;rw[congrFun hT3434 (v47,l1)];refine zaa ?_;try simp only[rnA,Nat.reduceEqDiff,Nat.reduceLT]
   cases c13:(decide (v47<(x11.vars.length:Int)))
   ·rw[c13,cond_false]at j3430;try simp only[rnA,Nat.reduceEqDiff,Nat.reduceLT,reduceCtorEq]
    replace j3430:=qaa j3430; subst j3430;exact lfj hT3430 rfl (wm0 [.k,.k] ⟨MB.cs ⟨qca,qca,qca,qca⟩,⟨MB.gs (eI .i64) true l1,qca⟩⟩)
   rw[c13,cond_true]at j3430;obtain⟨x14,g15,j3430⟩:=bind_some j3430;obtain⟨q16,g17,j3430⟩:=bind_some j3430;try simp only[rnA,Nat.reduceEqDiff,Nat.reduceLT,zam (n:=1) (e:=(eI .i64)) rfl g15,(zb3 g17).1,(zb3 g17).2]
   obtain⟨o3435,j3435,j3430⟩:=bind_some j3430;obtain⟨T3435,hT3435⟩:=mkT fun a:(List Int)=>⟨174,[(1,(fzE false (eI .i64) y4)),(3,(dU8 p3)),(10,(.ptr 0 0)),(11,(.sl 1 0 1 a.length none a.length)),(40,(.agg [(fzE false (eI .i64) r6.vars),(fzE false (eI .i64) r6.cards),(fzE false (eI .i64) r6.w),(fzE false (eI .i64) r8.vars),(fzE false (eI .i64) r8.cards),(fzE false (eI .i64) r8.w)])),(41,(dI v41)),(45,(fzE false (eI .i64) x11.vars)),(46,(dI (x11.vars.length:Int))),(47,(dI v47))],[.cells [(fzE false (eI .i64) x11.vars),(fzE false (eI .i64) x11.cards),(fzE false (eI .i64) x11.w)],.grow 1 (a.map ((eI .i64).c true))]⟩
   refine EvL.jn T3435 (fun a=>a=o3435) ?_ ?_
   ·refine zaa ?_;try simp only[rnA,Nat.reduceEqDiff]
    cases c18:((znr .u8 q16 1)== 1)
    ·rw[c18,cond_false]at j3435;try simp only[rnA]
     replace j3435:=qaa j3435; subst j3435;exact lfj hT3435 rfl (wm0 [.k,.k] ⟨MB.cs ⟨qca,qca,qca,qca⟩,⟨MB.gs (eI .i64) true l1,qca⟩⟩)
    rw[c18,cond_true]at j3435;obtain⟨y19,g20,j3435⟩:=bind_some j3435;try simp only[rnA,Nat.reduceEqDiff,Nat.reduceLT,Nat.reduceAdd,Nat.reduceLeDiff,zev g20,(show l1.length+1=y19.length from zdf g20),(show l1.map ((eI .i64).c true)++ [[(dI x14)]]=y19.map ((eI .i64).c true)from zdQ g20 ((eI .i64).c true))]
    replace j3435:=qaa j3435; subst j3435;exact lfj hT3435 rfl (wm0 [.k,.k] ⟨MB.cs ⟨qca,qca,qca,qca⟩,⟨MB.gs (eI .i64) true y19,qca⟩⟩)
   rintro l1' rfl;rw[congrFun hT3435 l1'];refine zaa ?_;try simp only[rnA,Nat.reduceEqDiff,Nat.reduceLT]
   exact⟨((w64 (v47+1)),l1'),j3430,by rw[hT3434]; exact wm0 [.k,.k] ⟨MB.cs ⟨qca,qca,qca,qca⟩,⟨MB.gs (eI .i64) true l1',qca⟩⟩⟩
  rintro l1 rfl;rw[congrFun hT3430 l1];refine zaa ?_;obtain⟨r21,g22,j1957⟩:=bind_some j1957;try simp only[rnA,Nat.reduceEqDiff,Nat.reduceLT,Nat.reduceAdd,Nat.reduceLeDiff]
  refine EvL.fn (zeW g22) rfl rfl (.cons (.za5 (.cons (zab _ _ (fun h=>nomatch h)) (.cons (zab _ _ (fun h=>nomatch h)) (.cons (zab _ _ (fun h=>nomatch h)) .nil)))) .nil) ?_;obtain⟨r23,g24,j1957⟩:=bind_some j1957;try simp only[rnA,Nat.reduceEqDiff,Nat.reduceLT,Nat.reduceAdd,Nat.reduceLeDiff]
  refine EvL.fn (zkp g24) rfl rfl (.cons (.za5 (.cons (zab _ _ (fun h=>nomatch h)) (.cons (zab _ _ (fun h=>nomatch h)) (.cons (zab _ _ (fun h=>nomatch h)) .nil)))) .nil) ?_;try simp only[rnA,Nat.reduceEqDiff,Nat.reduceLT]
  obtain⟨o3438,j3438,j1957⟩:=bind_some j1957;obtain⟨T3438,hT3438⟩:=mkT fun a:Bool=>⟨174,[(1,(fzE false (eI .i64) y4)),(3,(dU8 p3)),(10,(.ptr 0 0)),(11,(.sl 1 0 1 l1.length none l1.length)),(16,(dB a)),(40,(.agg [(fzE false (eI .i64) r6.vars),(fzE false (eI .i64) r6.cards),(fzE false (eI .i64) r6.w),(fzE false (eI .i64) r8.vars),(fzE false (eI .i64) r8.cards),(fzE false (eI .i64) r8.w)])),(41,(dI v41))],[.cells [(fzE false (eI .i64) x11.vars),(fzE false (eI .i64) x11.cards),(fzE false (eI .i64) x11.w)],.grow 1 (l1.map ((eI .i64).c true))]⟩
  refine EvL.jn T3438 (fun a=>o3438=.go a) ?_ ?_
  ·refine zaa ?_;try simp only[rnA,Nat.reduceEqDiff]
   cases c25:r23
   ·rw[c25,cond_false]at j3438;try simp only[rnA]
    obtain⟨o3439,j3439,j3438⟩:=bind_some j3438;obtain⟨T3439,hT3439⟩:=mkT fun a:Bool=>⟨174,[(1,(fzE false (eI .i64) y4)),(3,(dU8 p3)),(10,(.ptr 0 0)),(11,(.sl 1 0 1 l1.length none l1.length)),(16,(dB false)),(40,(.agg [(fzE false (eI .i64) r6.vars),(fzE false (eI .i64) r6.cards),(fzE false (eI .i64) r6.w),(fzE false (eI .i64) r8.vars),(fzE false (eI .i64) r8.cards),(fzE false (eI .i64) r8.w)])),(41,(dI v41)),(76,(dB a))],[.cells [(fzE false (eI .i64) x11.vars),(fzE false (eI .i64) x11.cards),(fzE false (eI .i64) x11.w)],.grow 1 (l1.map ((eI .i64).c true))]⟩
    refine EvL.jn T3439 (fun a=>a=o3439) ?_ ?_
    ·refine zaa ?_;try simp only[rnA,Nat.reduceEqDiff,Nat.reduceLT]
     cases c26:(r21.1 == 0)
     ·rw[c26,cond_false]at j3439;try simp only[rnA,Nat.reduceEqDiff,Nat.reduceLT]
      replace j3439:=qaa j3439; subst j3439;exact lfj hT3439 rfl (wm0 [.k,.k] ⟨MB.cs ⟨qca,qca,qca,qca⟩,⟨MB.gs (eI .i64) true l1,qca⟩⟩)
     rw[c26,cond_true]at j3439;try simp only[rnA,Nat.reduceEqDiff,Nat.reduceLT]
     replace j3439:=qaa j3439; subst j3439;exact lfj hT3439 rfl (wm0 [.k,.k] ⟨MB.cs ⟨qca,qca,qca,qca⟩,⟨MB.gs (eI .i64) true l1,qca⟩⟩)
    rintro v76 rfl;rw[congrFun hT3439 v76];refine zaa ?_;try simp only[rnA,Nat.reduceEqDiff]
    cases c27:v76
    ·rw[c27,cond_false]at j3438;try simp only[rnA]
     replace j3438:=qaa j3438; subst j3438;exact lfj hT3438 rfl (wm0 [.k,.k] ⟨MB.cs ⟨qca,qca,qca,qca⟩,⟨MB.gs (eI .i64) true l1,qca⟩⟩)
    rw[c27,cond_true]at j3438;try simp only[rnA,Nat.reduceLT]
    replace j3438:=qaa j3438; subst j3438;dsimp only at j1957;replace j1957:=qaa j1957; subst j1957;dsimp only at h;replace h:=qaa h; subst h;exact zbK.ret rfl (.lit _)
   rw[c25,cond_true]at j3438;obtain⟨r28,g29,j3438⟩:=bind_some j3438;try simp only[rnA,Nat.reduceEqDiff,Nat.reduceLT,Nat.reduceAdd,Nat.reduceLeDiff]
   refine EvL.fn (zkm g29) rfl rfl (.cons (.za5 (.cons (zab _ _ (fun h=>nomatch h)) (.cons (zab _ _ (fun h=>nomatch h)) (.cons (zab _ _ (fun h=>nomatch h)) .nil)))) .nil) ?_;try simp only[rnA,Nat.reduceEqDiff,Nat.reduceLT]
   obtain⟨o3440,j3440,j3438⟩:=bind_some j3438;obtain⟨T3440,hT3440⟩:=mkT fun a:Bool=>⟨174,[(1,(fzE false (eI .i64) y4)),(3,(dU8 p3)),(10,(.ptr 0 0)),(11,(.sl 1 0 1 l1.length none l1.length)),(16,(dB true)),(40,(.agg [(fzE false (eI .i64) r6.vars),(fzE false (eI .i64) r6.cards),(fzE false (eI .i64) r6.w),(fzE false (eI .i64) r8.vars),(fzE false (eI .i64) r8.cards),(fzE false (eI .i64) r8.w)])),(41,(dI v41)),(101,(dB a))],[.cells [(fzE false (eI .i64) x11.vars),(fzE false (eI .i64) x11.cards),(fzE false (eI .i64) x11.w)],.grow 1 (l1.map ((eI .i64).c true))]⟩
   refine EvL.jn T3440 (fun a=>a=o3440) ?_ ?_
   ·refine zaa ?_;obtain⟨r30,g31,j3440⟩:=bind_some j3440;try simp only[rnA,Nat.reduceEqDiff,Nat.reduceLT]
    refine EvL.fn (zii g31) rfl rfl (.cons (.lit _) .nil) ?_;try simp only[rnA,Nat.reduceEqDiff,Nat.reduceLT]
    cases c32:(r21.2 == r30)
    ·rw[c32,cond_false]at j3440;try simp only[rnA,Nat.reduceEqDiff,Nat.reduceLT]
     replace j3440:=qaa j3440; subst j3440;exact lfj hT3440 rfl (wm0 [.k,.k] ⟨MB.cs ⟨qca,qca,qca,qca⟩,⟨MB.gs (eI .i64) true l1,qca⟩⟩)
    rw[c32,cond_true]at j3440;try simp only[rnA,Nat.reduceEqDiff,Nat.reduceLT]
    cases c33:r28.2
    ·rw[c33,cond_false]at j3440;try simp only[rnA,Nat.reduceEqDiff,Nat.reduceLT]
     replace j3440:=qaa j3440; subst j3440;exact lfj hT3440 rfl (wm0 [.k,.k] ⟨MB.cs ⟨qca,qca,qca,qca⟩,⟨MB.gs (eI .i64) true l1,qca⟩⟩)
    rw[c33,cond_true]at j3440;try simp only[rnA,Nat.reduceEqDiff,Nat.reduceLT]
    cases c34:(r21.1 == r28.1)
    ·rw[c34,cond_false]at j3440;try simp only[rnA,Nat.reduceEqDiff,Nat.reduceLT]
     replace j3440:=qaa j3440; subst j3440;exact lfj hT3440 rfl (wm0 [.k,.k] ⟨MB.cs ⟨qca,qca,qca,qca⟩,⟨MB.gs (eI .i64) true l1,qca⟩⟩)
    rw[c34,cond_true]at j3440;try simp only[rnA,Nat.reduceEqDiff,Nat.reduceLT]
    replace j3440:=qaa j3440; subst j3440;exact lfj hT3440 rfl (wm0 [.k,.k] ⟨MB.cs ⟨qca,qca,qca,qca⟩,⟨MB.gs (eI .i64) true l1,qca⟩⟩)
   rintro v101 rfl;rw[congrFun hT3440 v101];refine zaa ?_;try simp only[rnA,Nat.reduceEqDiff]
   cases c35:v101
   ·rw[c35,cond_false]at j3438;try simp only[rnA]
    replace j3438:=qaa j3438; subst j3438;exact lfj hT3438 rfl (wm0 [.k,.k] ⟨MB.cs ⟨qca,qca,qca,qca⟩,⟨MB.gs (eI .i64) true l1,qca⟩⟩)
   rw[c35,cond_true]at j3438;try simp only[rnA,Nat.reduceLT]
   replace j3438:=qaa j3438; subst j3438;dsimp only at j1957;replace j1957:=qaa j1957; subst j1957;dsimp only at h;replace h:=qaa h; subst h;exact zbK.ret rfl (.lit _)
  rintro v16 rfl;dsimp only at j1957;rw[congrFun hT3438 v16];refine zaa ?_;try simp only[rnA,Nat.reduceEqDiff,Nat.reduceLT,Nat.reduceAdd,Nat.reduceLeDiff]
  obtain⟨o3677,j3677,j1957⟩:=bind_some j1957;obtain⟨T3677,hT3677⟩:=mkT fun a:Unit=>⟨174,[(1,(fzE false (eI .i64) y4)),(3,(dU8 p3)),(40,(.agg [(fzE false (eI .i64) r6.vars),(fzE false (eI .i64) r6.cards),(fzE false (eI .i64) r6.w),(fzE false (eI .i64) r8.vars),(fzE false (eI .i64) r8.cards),(fzE false (eI .i64) r8.w)])),(41,(dI v41))],[]⟩
  refine EvL.jn T3677 (fun a=>o3677=.go a) ?_ ?_
  ·refine zaa ?_;simp only[rnA];obtain⟨T3855,hT3855⟩:=mkT fun a:(Bool×Int)=>⟨174,[(1,(fzE false (eI .i64) y4)),(3,(dU8 p3)),(10,(.ptr 0 0)),(16,(dB a.1)),(40,(.agg [(fzE false (eI .i64) r6.vars),(fzE false (eI .i64) r6.cards),(fzE false (eI .i64) r6.w),(fzE false (eI .i64) r8.vars),(fzE false (eI .i64) r8.cards),(fzE false (eI .i64) r8.w)])),(41,(dI v41)),(104,(.agg [(fzE false (eI .i64) y4),(fzE false (eI .i64) l1)])),(105,(dI a.2))],[.cells [(fzE false (eI .i64) x11.vars),(fzE false (eI .i64) x11.cards),(fzE false (eI .i64) x11.w)]]⟩
   refine EvL.rounds (α:=(Bool×Int)) T3855 (fun n a=>zaO y4 l1 x11 n a.1 a.2=some o3677) (2 - 0+2:Int).toNat (v16,0) (by rw[hT3855]; exact zbx.m0 [.k,.f] rfl (msq (msq (msq (msq (ms rfl ⟨qca,qca,qca,qca,qca,qca,qca⟩ (msq (mx rfl (Mo.za5 (.cons (.same trivial) (.cons (.fr (zaU (e:=(eI .i64)) (t:=true) rfl rfl (.inr rfl) rfl rfl (fun k h=>nomatch h) (fun h=>by cases h<;>rfl))) .nil))) (msq trivial)))))))) ⟨MB.cs ⟨qca,qca,qca,qca⟩,qca⟩) j3677 (fun _ h=>nomatch (show(none:Option (Out Unit Bool))=some o3677 from h)) ?_;rintro n ⟨v16',v105⟩ j3677;simp only[zaO]at j3677;rw[congrFun hT3855 (v16',v105)];refine zaa ?_;try simp only[rnA,Nat.reduceEqDiff,Nat.reduceLT]
   cases c36:(decide (v105<2))
   ·rw[c36,cond_false]at j3677;try simp only[rnA,Nat.reduceEqDiff,Nat.reduceLT,reduceCtorEq]
    replace j3677:=qaa j3677; subst j3677;exact lfj hT3677 rfl (wm0 [] (by exact trivial))
   rw[c36,cond_true]at j3677;try simp only[rnA]
   obtain⟨o3885,j3885,j3677⟩:=bind_some j3677;obtain⟨T3885,hT3885⟩:=mkT fun a:Bool=>⟨174,[(1,(fzE false (eI .i64) y4)),(3,(dU8 p3)),(10,(.ptr 0 0)),(16,(dB a)),(40,(.agg [(fzE false (eI .i64) r6.vars),(fzE false (eI .i64) r6.cards),(fzE false (eI .i64) r6.w),(fzE false (eI .i64) r8.vars),(fzE false (eI .i64) r8.cards),(fzE false (eI .i64) r8.w)])),(41,(dI v41)),(104,(.agg [(fzE false (eI .i64) y4),(fzE false (eI .i64) l1)])),(105,(dI v105))],[.cells [(fzE false (eI .i64) x11.vars),(fzE false (eI .i64) x11.cards),(fzE false (eI .i64) x11.w)]]⟩
   refine EvL.jn T3885 (fun a=>o3885=.go a) ?_ ?_
   ·refine zaa ?_;obtain⟨x37,g38,j3885⟩:=bind_some j3885;obtain⟨r39,g40,j3885⟩:=bind_some j3885;try simp only[rnA,Nat.reduceEqDiff,Nat.reduceLT,Nat.reduceAdd,Nat.reduceLeDiff,za0 g38,(show v105<((2:Nat):Int)from za2 g38),Nat.mul_one,qb3,(show [(fzE false (eI .i64) y4),(fzE false (eI .i64) l1)][v105.toNat]? = some (fzE false (eI .i64) x37)from zkI g38 (fun x=>fzE false (eI .i64) x) rfl)]
    refine EvL.fnS (zdc g40) rfl rfl (.cons (Mzs.agg (.cons (zae _ _ (fun h=>by cases h<;>contradiction)) (.cons (zae _ _ (fun h=>by cases h<;>contradiction)) (.cons (zae _ _ (fun h=>by cases h<;>contradiction)) .nil)))) (.cons (zae _ _ (fun h=>by cases h<;>contradiction)) .nil)) ⟨⟨(zac _ _),(zac _ _),(zac _ _),qca⟩,(zac _ _),qca⟩ ⟨⟨(zac _ _),(zac _ _),(zac _ _),qca⟩,qca,qca⟩ ?_;try simp only[rnA,Nat.reduceEqDiff,Nat.reduceLT,Nat.reduceAdd,Nat.reduceLeDiff,zav]
    obtain⟨o3892,j3892,j3885⟩:=bind_some j3885;obtain⟨T3892,hT3892⟩:=mkT fun a:Int=>⟨174,[(1,(fzE false (eI .i64) y4)),(3,(dU8 p3)),(10,(.ptr 0 0)),(16,(dB v16')),(20,(fzE false (eI .i64) x37)),(21,(.ptr 1 0)),(22,(dI r39.2)),(23,(dI a)),(40,(.agg [(fzE false (eI .i64) r6.vars),(fzE false (eI .i64) r6.cards),(fzE false (eI .i64) r6.w),(fzE false (eI .i64) r8.vars),(fzE false (eI .i64) r8.cards),(fzE false (eI .i64) r8.w)])),(41,(dI v41)),(104,(.agg [(fzE false (eI .i64) y4),(fzE false (eI .i64) l1)])),(105,(dI v105))],[.cells [(fzE false (eI .i64) x11.vars),(fzE false (eI .i64) x11.cards),(fzE false (eI .i64) x11.w)],.cells [(fzE false (eI .i64) r39.1.vars),(fzE false (eI .i64) r39.1.cards),(fzE false (eI .i64) r39.1.w)]]⟩
    refine EvL.jn T3892 (fun a=>a=o3892) ?_ ?_
    ·refine zaa ?_;simp only[rnA];obtain⟨T3897,hT3897⟩:=mkT fun a:(Int×Int)=>⟨174,[(1,(fzE false (eI .i64) y4)),(3,(dU8 p3)),(10,(.ptr 0 0)),(16,(dB v16')),(20,(fzE false (eI .i64) x37)),(21,(.ptr 1 0)),(22,(dI r39.2)),(23,(dI a.1)),(40,(.agg [(fzE false (eI .i64) r6.vars),(fzE false (eI .i64) r6.cards),(fzE false (eI .i64) r6.w),(fzE false (eI .i64) r8.vars),(fzE false (eI .i64) r8.cards),(fzE false (eI .i64) r8.w)])),(41,(dI v41)),(104,(.agg [(fzE false (eI .i64) y4),(fzE false (eI .i64) l1)])),(105,(dI v105)),(115,(dI (x37.length:Int))),(116,(dI a.2))],[.cells [(fzE false (eI .i64) x11.vars),(fzE false (eI .i64) x11.cards),(fzE false (eI .i64) x11.w)],.cells [(fzE false (eI .i64) r39.1.vars),(fzE false (eI .i64) r39.1.cards),(fzE false (eI .i64) r39.1.w)]]⟩
     refine EvL.rounds (α:=(Int×Int)) T3897 (fun n a=>zaN x37 n a.1 a.2=some o3892) ((x37.length:Int) - 0+2:Int).toNat (0,0) (by rw[hT3897]; exact wm0 [.k,.k] ⟨MB.cs ⟨qca,qca,qca,qca⟩,⟨MB.cs ⟨qca,qca,qca,qca⟩,qca⟩⟩) j3892 (fun _ h=>nomatch (show(none:Option Int)=some o3892 from h)) ?_;rintro n ⟨v23,v116⟩ j3892;simp only[zaN]at j3892;rw[congrFun hT3897 (v23,v116)];refine zaa ?_;try simp only[rnA,Nat.reduceEqDiff,Nat.reduceLT]
     cases c41:(decide (v116<(x37.length:Int)))
     ·rw[c41,cond_false]at j3892;try simp only[rnA,Nat.reduceEqDiff,Nat.reduceLT,reduceCtorEq]
      replace j3892:=qaa j3892; subst j3892;exact lfj hT3892 rfl (wm0 [.k,.k] ⟨MB.cs ⟨qca,qca,qca,qca⟩,⟨MB.cs ⟨qca,qca,qca,qca⟩,qca⟩⟩)
     rw[c41,cond_true]at j3892;try simp only[rnA,Nat.reduceEqDiff,Nat.reduceLT]
     obtain⟨o3898,j3898,j3892⟩:=bind_some j3892;obtain⟨T3898,hT3898⟩:=mkT fun a:Bool=>⟨174,[(1,(fzE false (eI .i64) y4)),(3,(dU8 p3)),(10,(.ptr 0 0)),(16,(dB v16')),(20,(fzE false (eI .i64) x37)),(21,(.ptr 1 0)),(22,(dI r39.2)),(23,(dI v23)),(40,(.agg [(fzE false (eI .i64) r6.vars),(fzE false (eI .i64) r6.cards),(fzE false (eI .i64) r6.w),(fzE false (eI .i64) r8.vars),(fzE false (eI .i64) r8.cards),(fzE false (eI .i64) r8.w)])),(41,(dI v41)),(104,(.agg [(fzE false (eI .i64) y4),(fzE false (eI .i64) l1)])),(105,(dI v105)),(115,(dI (x37.length:Int))),(116,(dI v116)),(132,(dB a))],[.cells [(fzE false (eI .i64) x11.vars),(fzE false (eI .i64) x11.cards),(fzE false (eI .i64) x11.w)],.cells [(fzE false (eI .i64) r39.1.vars),(fzE false (eI .i64) r39.1.cards),(fzE false (eI .i64) r39.1.w)]]⟩
     refine EvL.jn T3898 (fun a=>a=o3898) ?_ ?_
     ·refine zaa ?_;try simp only[rnA,Nat.reduceEqDiff,Nat.reduceLT]
      cases c42:(decide (0<v116))
      ·rw[c42,cond_false]at j3898;try simp only[rnA,Nat.reduceEqDiff,Nat.reduceLT]
       replace j3898:=qaa j3898; subst j3898;exact lfj hT3898 rfl (wm0 [.k,.k] ⟨MB.cs ⟨qca,qca,qca,qca⟩,⟨MB.cs ⟨qca,qca,qca,qca⟩,qca⟩⟩)
      rw[c42,cond_true]at j3898;obtain⟨x43,g44,j3898⟩:=bind_some j3898;obtain⟨x45,g46,j3898⟩:=bind_some j3898;try simp only[rnA,Nat.reduceEqDiff,Nat.reduceLT,zam (n:=1) (e:=(eI .i64)) rfl g44,zam (n:=1) (e:=(eI .i64)) rfl g46]
      replace j3898:=qaa j3898; subst j3898;exact lfj hT3898 rfl (wm0 [.k,.k] ⟨MB.cs ⟨qca,qca,qca,qca⟩,⟨MB.cs ⟨qca,qca,qca,qca⟩,qca⟩⟩)
     rintro v132 rfl;rw[congrFun hT3898 v132];refine zaa ?_;try simp only[rnA]
     obtain⟨o3899,j3899,j3892⟩:=bind_some j3892;obtain⟨T3899,hT3899⟩:=mkT fun a:Int=>⟨174,[(1,(fzE false (eI .i64) y4)),(3,(dU8 p3)),(10,(.ptr 0 0)),(16,(dB v16')),(20,(fzE false (eI .i64) x37)),(21,(.ptr 1 0)),(22,(dI r39.2)),(23,(dI a)),(40,(.agg [(fzE false (eI .i64) r6.vars),(fzE false (eI .i64) r6.cards),(fzE false (eI .i64) r6.w),(fzE false (eI .i64) r8.vars),(fzE false (eI .i64) r8.cards),(fzE false (eI .i64) r8.w)])),(41,(dI v41)),(104,(.agg [(fzE false (eI .i64) y4),(fzE false (eI .i64) l1)])),(105,(dI v105)),(115,(dI (x37.length:Int))),(116,(dI v116))],[.cells [(fzE false (eI .i64) x11.vars),(fzE false (eI .i64) x11.cards),(fzE false (eI .i64) x11.w)],.cells [(fzE false (eI .i64) r39.1.vars),(fzE false (eI .i64) r39.1.cards),(fzE false (eI .i64) r39.1.w)]]⟩
     refine EvL.jn T3899 (fun a=>a=o3899) ?_ ?_
     ·refine zaa ?_;try simp only[rnA,Nat.reduceEqDiff]
      cases c47:v132
      ·rw[c47,cond_false]at j3899;try simp only[rnA]
       replace j3899:=qaa j3899; subst j3899;exact lfj hT3899 rfl (wm0 [.k,.k] ⟨MB.cs ⟨qca,qca,qca,qca⟩,⟨MB.cs ⟨qca,qca,qca,qca⟩,qca⟩⟩)
      rw[c47,cond_true]at j3899;try simp only[rnA,Nat.reduceLT]
      replace j3899:=qaa j3899; subst j3899;exact lfj hT3899 rfl (wm0 [.k,.k] ⟨MB.cs ⟨qca,qca,qca,qca⟩,⟨MB.cs ⟨qca,qca,qca,qca⟩,qca⟩⟩)
     rintro v23' rfl;rw[congrFun hT3899 v23'];refine zaa ?_;try simp only[rnA,Nat.reduceEqDiff,Nat.reduceLT]
     exact⟨(v23',(w64 (v116+1))),j3892,by rw[hT3897]; exact wm0 [.k,.k] ⟨MB.cs ⟨qca,qca,qca,qca⟩,⟨MB.cs ⟨qca,qca,qca,qca⟩,qca⟩⟩⟩
    rintro v23 rfl;rw[congrFun hT3892 v23];refine zaa ?_;try simp only[rnA,Nat.reduceEqDiff,Nat.reduceLT,zav]
    obtain⟨o3906,j3906,j3885⟩:=bind_some j3885;obtain⟨T3906,hT3906⟩:=mkT fun a:Int=>⟨174,[(1,(fzE false (eI .i64) y4)),(3,(dU8 p3)),(10,(.ptr 0 0)),(16,(dB v16')),(20,(fzE false (eI .i64) x37)),(21,(.ptr 1 0)),(22,(dI r39.2)),(23,(dI a)),(40,(.agg [(fzE false (eI .i64) r6.vars),(fzE false (eI .i64) r6.cards),(fzE false (eI .i64) r6.w),(fzE false (eI .i64) r8.vars),(fzE false (eI .i64) r8.cards),(fzE false (eI .i64) r8.w)])),(41,(dI v41)),(104,(.agg [(fzE false (eI .i64) y4),(fzE false (eI .i64) l1)])),(105,(dI v105))],[.cells [(fzE false (eI .i64) x11.vars),(fzE false (eI .i64) x11.cards),(fzE false (eI .i64) x11.w)],.cells [(fzE false (eI .i64) r39.1.vars),(fzE false (eI .i64) r39.1.cards),(fzE false (eI .i64) r39.1.w)]]⟩
    refine EvL.jn T3906 (fun a=>a=o3906) ?_ ?_
    ·refine zaa ?_;simp only[rnA];obtain⟨T3911,hT3911⟩:=mkT fun a:(Int×Int)=>⟨174,[(1,(fzE false (eI .i64) y4)),(3,(dU8 p3)),(10,(.ptr 0 0)),(16,(dB v16')),(20,(fzE false (eI .i64) x37)),(21,(.ptr 1 0)),(22,(dI r39.2)),(23,(dI a.1)),(40,(.agg [(fzE false (eI .i64) r6.vars),(fzE false (eI .i64) r6.cards),(fzE false (eI .i64) r6.w),(fzE false (eI .i64) r8.vars),(fzE false (eI .i64) r8.cards),(fzE false (eI .i64) r8.w)])),(41,(dI v41)),(104,(.agg [(fzE false (eI .i64) y4),(fzE false (eI .i64) l1)])),(105,(dI v105)),(134,(fzE false (eI .i64) x37)),(135,(dI (x37.length:Int))),(136,(dI a.2))],[.cells [(fzE false (eI .i64) x11.vars),(fzE false (eI .i64) x11.cards),(fzE false (eI .i64) x11.w)],.cells [(fzE false (eI .i64) r39.1.vars),(fzE false (eI .i64) r39.1.cards),(fzE false (eI .i64) r39.1.w)]]⟩
     refine EvL.rounds (α:=(Int×Int)) T3911 (fun n a=>zaA x37 x11 n a.1 a.2=some o3906) ((x37.length:Int) - 0+2:Int).toNat (v23,0) (by rw[hT3911]; exact wm0 [.k,.k] ⟨MB.cs ⟨qca,qca,qca,qca⟩,⟨MB.cs ⟨qca,qca,qca,qca⟩,qca⟩⟩) j3906 (fun _ h=>nomatch (show(none:Option Int)=some o3906 from h)) ?_;rintro n ⟨v23',v136⟩ j3906;simp only[zaA]at j3906;rw[congrFun hT3911 (v23',v136)];refine zaa ?_;try simp only[rnA,Nat.reduceEqDiff,Nat.reduceLT]
     cases c48:(decide (v136<(x37.length:Int)))
     ·rw[c48,cond_false]at j3906;try simp only[rnA,Nat.reduceEqDiff,Nat.reduceLT,reduceCtorEq]
      replace j3906:=qaa j3906; subst j3906;exact lfj hT3906 rfl (wm0 [.k,.k] ⟨MB.cs ⟨qca,qca,qca,qca⟩,⟨MB.cs ⟨qca,qca,qca,qca⟩,qca⟩⟩)
     rw[c48,cond_true]at j3906;obtain⟨x49,g50,j3906⟩:=bind_some j3906;try simp only[rnA,Nat.reduceEqDiff,Nat.reduceLT,zam (n:=1) (e:=(eI .i64)) rfl g50]
     obtain⟨o3912,j3912,j3906⟩:=bind_some j3906;obtain⟨T3912,hT3912⟩:=mkT fun a:Bool=>⟨174,[(1,(fzE false (eI .i64) y4)),(3,(dU8 p3)),(10,(.ptr 0 0)),(16,(dB v16')),(20,(fzE false (eI .i64) x37)),(21,(.ptr 1 0)),(22,(dI r39.2)),(23,(dI v23')),(40,(.agg [(fzE false (eI .i64) r6.vars),(fzE false (eI .i64) r6.cards),(fzE false (eI .i64) r6.w),(fzE false (eI .i64) r8.vars),(fzE false (eI .i64) r8.cards),(fzE false (eI .i64) r8.w)])),(41,(dI v41)),(104,(.agg [(fzE false (eI .i64) y4),(fzE false (eI .i64) l1)])),(105,(dI v105)),(134,(fzE false (eI .i64) x37)),(135,(dI (x37.length:Int))),(136,(dI v136)),(147,(dB a))],[.cells [(fzE false (eI .i64) x11.vars),(fzE false (eI .i64) x11.cards),(fzE false (eI .i64) x11.w)],.cells [(fzE false (eI .i64) r39.1.vars),(fzE false (eI .i64) r39.1.cards),(fzE false (eI .i64) r39.1.w)]]⟩
     refine EvL.jn T3912 (fun a=>a=o3912) ?_ ?_
     ·refine zaa ?_;try simp only[rnA,Nat.reduceEqDiff,Nat.reduceLT]
      cases c51:(v23' == 0)
      ·rw[c51,cond_false]at j3912;try simp only[rnA,Nat.reduceEqDiff,Nat.reduceLT]
       refine EvL.skip rfl ?_;try simp only[rnA,Nat.reduceEqDiff,Nat.reduceLT]
       replace j3912:=qaa j3912; subst j3912;exact lfj hT3912 rfl (wm0 [.k,.k] ⟨MB.cs ⟨qca,qca,qca,qca⟩,⟨MB.cs ⟨qca,qca,qca,qca⟩,qca⟩⟩)
      rw[c51,cond_true]at j3912;obtain⟨r52,g53,j3912⟩:=bind_some j3912;try simp only[rnA,Nat.reduceEqDiff,Nat.reduceLT,Nat.reduceAdd,Nat.reduceLeDiff]
      refine EvL.fn (zgK g53) rfl rfl (.cons (.za5 (.cons (zab _ _ (fun h=>nomatch h)) (.cons (zab _ _ (fun h=>nomatch h)) (.cons (zab _ _ (fun h=>nomatch h)) .nil)))) (.cons (.lit _) .nil)) ?_;try simp only[rnA,Nat.reduceEqDiff,Nat.reduceLT]
      replace j3912:=qaa j3912; subst j3912;exact lfj hT3912 rfl (wm0 [.k,.k] ⟨MB.cs ⟨qca,qca,qca,qca⟩,⟨MB.cs ⟨qca,qca,qca,qca⟩,qca⟩⟩)
     rintro v147 rfl;rw[congrFun hT3912 v147];refine zaa ?_;try simp only[rnA]
     obtain⟨o3913,j3913,j3906⟩:=bind_some j3906;obtain⟨T3913,hT3913⟩:=mkT fun a:Int=>⟨174,[(1,(fzE false (eI .i64) y4)),(3,(dU8 p3)),(10,(.ptr 0 0)),(16,(dB v16')),(20,(fzE false (eI .i64) x37)),(21,(.ptr 1 0)),(22,(dI r39.2)),(23,(dI a)),(40,(.agg [(fzE false (eI .i64) r6.vars),(fzE false (eI .i64) r6.cards),(fzE false (eI .i64) r6.w),(fzE false (eI .i64) r8.vars),(fzE false (eI .i64) r8.cards),(fzE false (eI .i64) r8.w)])),(41,(dI v41)),(104,(.agg [(fzE false (eI .i64) y4),(fzE false (eI .i64) l1)])),(105,(dI v105)),(134,(fzE false (eI .i64) x37)),(135,(dI (x37.length:Int))),(136,(dI v136))],[.cells [(fzE false (eI .i64) x11.vars),(fzE false (eI .i64) x11.cards),(fzE false (eI .i64) x11.w)],.cells [(fzE false (eI .i64) r39.1.vars),(fzE false (eI .i64) r39.1.cards),(fzE false (eI .i64) r39.1.w)]]⟩
     refine EvL.jn T3913 (fun a=>a=o3913) ?_ ?_
     ·refine zaa ?_;try simp only[rnA,Nat.reduceEqDiff]
      cases c54:v147
      ·rw[c54,cond_false]at j3913;try simp only[rnA]
       replace j3913:=qaa j3913; subst j3913;exact lfj hT3913 rfl (wm0 [.k,.k] ⟨MB.cs ⟨qca,qca,qca,qca⟩,⟨MB.cs ⟨qca,qca,qca,qca⟩,qca⟩⟩)
      rw[c54,cond_true]at j3913;try simp only[rnA,Nat.reduceLT]
      replace j3913:=qaa j3913; subst j3913;exact lfj hT3913 rfl (wm0 [.k,.k] ⟨MB.cs ⟨qca,qca,qca,qca⟩,⟨MB.cs ⟨qca,qca,qca,qca⟩,qca⟩⟩)
     rintro v23'' rfl;rw[congrFun hT3913 v23''];refine zaa ?_;try simp only[rnA,Nat.reduceEqDiff,Nat.reduceLT]
     exact⟨(v23'',(w64 (v136+1))),j3906,by rw[hT3911]; exact wm0 [.k,.k] ⟨MB.cs ⟨qca,qca,qca,qca⟩,⟨MB.cs ⟨qca,qca,qca,qca⟩,qca⟩⟩⟩
    rintro v23' rfl;rw[congrFun hT3906 v23'];refine zaa ?_;try simp only[rnA,Nat.reduceEqDiff,Nat.reduceLT]
    obtain⟨o3914,j3914,j3885⟩:=bind_some j3885;obtain⟨T3914,hT3914⟩:=mkT fun a:(Bool×Int)=>⟨174,[(1,(fzE false (eI .i64) y4)),(3,(dU8 p3)),(10,(.ptr 0 0)),(16,(dB a.1)),(20,(fzE false (eI .i64) x37)),(21,(.ptr 1 0)),(22,(dI r39.2)),(23,(dI a.2)),(40,(.agg [(fzE false (eI .i64) r6.vars),(fzE false (eI .i64) r6.cards),(fzE false (eI .i64) r6.w),(fzE false (eI .i64) r8.vars),(fzE false (eI .i64) r8.cards),(fzE false (eI .i64) r8.w)])),(41,(dI v41)),(104,(.agg [(fzE false (eI .i64) y4),(fzE false (eI .i64) l1)])),(105,(dI v105))],[.cells [(fzE false (eI .i64) x11.vars),(fzE false (eI .i64) x11.cards),(fzE false (eI .i64) x11.w)],.cells [(fzE false (eI .i64) r39.1.vars),(fzE false (eI .i64) r39.1.cards),(fzE false (eI .i64) r39.1.w)]]⟩
    refine EvL.jn T3914 (fun a=>a=o3914) ?_ ?_
    ·refine zaa ?_;try simp only[rnA,Nat.reduceEqDiff]
     cases c55:v16'
     ·rw[c55,cond_false]at j3914;try simp only[rnA,Nat.reduceLT]
      replace j3914:=qaa j3914; subst j3914;exact lfj hT3914 rfl (wm0 [.k,.k] ⟨MB.cs ⟨qca,qca,qca,qca⟩,⟨MB.cs ⟨qca,qca,qca,qca⟩,qca⟩⟩)
     rw[c55,cond_true]at j3914;try simp only[rnA]
     replace j3914:=qaa j3914; subst j3914;exact lfj hT3914 rfl (wm0 [.k,.k] ⟨MB.cs ⟨qca,qca,qca,qca⟩,⟨MB.cs ⟨qca,qca,qca,qca⟩,qca⟩⟩)
    rintro⟨v16'',v23''⟩ rfl;dsimp only at j3885;rw[congrFun hT3914 (v16'',v23'')];refine zaa ?_;try simp only[rnA,Nat.reduceEqDiff,Nat.reduceLT]
    cases c56:(v23'' == 0)
    ·rw[c56,cond_false]at j3885;obtain⟨r57,g58,j3885⟩:=bind_some j3885;try simp only[rnA,Nat.reduceEqDiff,Nat.reduceLT,Nat.reduceAdd,Nat.reduceLeDiff]
     refine EvL.fn (zhH g58) rfl rfl (.cons (.za5 (.cons (zab _ _ (fun h=>nomatch h)) (.cons (zab _ _ (fun h=>nomatch h)) (.cons (zab _ _ (fun h=>nomatch h)) .nil)))) (.cons (.lit _) (.cons (.za5 (.cons (zab _ _ (fun h=>nomatch h)) (.cons (zab _ _ (fun h=>nomatch h)) (.cons (zab _ _ (fun h=>nomatch h)) .nil)))) (.cons (.lit _) .nil)))) ?_;try simp only[rnA,Nat.reduceEqDiff,Nat.reduceLT]
     cases c59:r57
     ·rw[c59,cond_false]at j3885;try simp only[rnA,Nat.reduceLT]
      replace j3885:=qaa j3885; subst j3885;dsimp only at j3677;replace j3677:=qaa j3677; subst j3677;dsimp only at j1957;replace j1957:=qaa j1957; subst j1957;dsimp only at h;replace h:=qaa h; subst h;exact zbK.ret rfl (.lit _)
     rw[c59,cond_true]at j3885;try simp only[rnA,Nat.reduceEqDiff,Nat.reduceLT,reduceCtorEq]
     replace j3885:=qaa j3885; subst j3885;exact lfj hT3885 rfl (wm0 [.k] ⟨MB.cs ⟨qca,qca,qca,qca⟩,qca⟩)
    rw[c56,cond_true]at j3885;obtain⟨r60,g61,j3885⟩:=bind_some j3885;try simp only[rnA,Nat.reduceEqDiff,Nat.reduceLT,Nat.reduceAdd,Nat.reduceLeDiff]
    refine EvL.fnS (zlg g61) rfl rfl (.cons (Mzs.agg (.cons (zae _ _ (fun h=>by cases h<;>contradiction)) (.cons (zae _ _ (fun h=>by cases h<;>contradiction)) (.cons (zae _ _ (fun h=>by cases h<;>contradiction)) .nil)))) (.cons (zae _ _ (fun h=>by cases h<;>contradiction)) .nil)) ⟨⟨(zac _ _),(zac _ _),(zac _ _),qca⟩,(zac _ _),qca⟩ ⟨⟨(zac _ _),(zac _ _),(zac _ _),qca⟩,qca,qca⟩ ?_;obtain⟨r62,g63,j3885⟩:=bind_some j3885;try simp only[rnA,Nat.reduceEqDiff,Nat.reduceLT,Nat.reduceAdd,Nat.reduceLeDiff]
    refine EvL.fn (zii g63) rfl rfl (.cons (.lit _) .nil) ?_;obtain⟨r64,g65,j3885⟩:=bind_some j3885;try simp only[rnA,Nat.reduceLT]
    refine EvL.fn (zhH g65) rfl rfl (.cons (.za5 (.cons (zab _ _ (fun h=>nomatch h)) (.cons (zab _ _ (fun h=>nomatch h)) (.cons (zab _ _ (fun h=>nomatch h)) .nil)))) (.cons (.lit _) (.cons (.za5 (.cons (zab _ _ (fun h=>nomatch h)) (.cons (zab _ _ (fun h=>nomatch h)) (.cons (zab _ _ (fun h=>nomatch h)) .nil)))) (.cons (.lit _) .nil)))) ?_;try simp only[rnA,Nat.reduceEqDiff,Nat.reduceLT]
    cases c66:r64
    ·rw[c66,cond_false]at j3885;try simp only[rnA,Nat.reduceLT]
     replace j3885:=qaa j3885; subst j3885;dsimp only at j3677;replace j3677:=qaa j3677; subst j3677;dsimp only at j1957;replace j1957:=qaa j1957; subst j1957;dsimp only at h;replace h:=qaa h; subst h;exact zbK.ret rfl (.lit _)
    rw[c66,cond_true]at j3885;try simp only[rnA]
    replace j3885:=qaa j3885; subst j3885;exact lfj hT3885 rfl (wm0 [.k] ⟨MB.cs ⟨qca,qca,qca,qca⟩,qca⟩)
   rintro v16'' rfl;dsimp only at j3677;rw[congrFun hT3885 v16''];refine zaa ?_;try simp only[rnA,Nat.reduceEqDiff,Nat.reduceLT]
   exact⟨(v16'',(w64 (v105+1))),j3677,by rw[hT3855]; exact wm0 [.k] ⟨MB.cs ⟨qca,qca,qca,qca⟩,qca⟩⟩
  rintro⟨⟩ rfl;dsimp only at j1957;rw[congrFun hT3677 ()];refine zaa ?_;try simp only[rnA,Nat.reduceEqDiff,Nat.reduceLT]
  exact⟨(w64 (v41+1)),j1957,by rw[hT3425]; exact wm0 [] (by exact trivial)⟩
 rintro⟨⟩ rfl;dsimp only at h;rw[congrFun hT1957 ()];refine zaa ?_;try simp only[rnA,Nat.reduceLT]
 replace h:=qaa h; subst h;exact zbK.ret rfl (.lit _)
end Go.Dc
