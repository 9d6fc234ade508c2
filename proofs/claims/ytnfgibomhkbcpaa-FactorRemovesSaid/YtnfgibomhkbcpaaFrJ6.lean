/-
 What l03_FactorProducts computes. Conditions: none.
-/
import Derived.Test.YtnfgibomhkbcpaaFrJ4
import Derived.Test.YtnfgibomhkbcpaaFrJ5
set_option linter.unusedSimpArgs false
set_option linter.unusedVariables false
set_option maxRecDepth 100000
set_option maxHeartbeats 4000000
namespace Go.Dc
open Go Go.Mx Go.Lx Go.Proofs
def zaA(N:Nat)(p1:Int)(p2:Int)(p4:Int)(x9:S_api_Factor):Nat→Int→Option (Out Unit Bool)
 | 0,_=>none
 | n+1,v51=>(
bif (decide (v51<3))then(
(((za4 [(A2_Inti64.mk p1 p2),(A2_Inti64.mk (w64 (p4.tmod 5)) p2),(A2_Inti64.mk (w64 (p4.tmod 5)) (w64 ((IntKind.u8.wrap (p4.tdiv 5)).tmod 3)))] v51).bind fun x12=>
(zaQ x9 x12.a0).bind fun r14=>
(zaV x9 x12.a0).bind fun r16=>
(za3 x9 x12.a0 x12.a1).bind fun r18=>
(zd1 x9).bind fun r20=>
((bif r20 then(
(zbw x9 x12.a0).bind fun r23=>
bif (decide (r23<0))then(
some 4)
else(
some 0))
else(
some 30):Option Int)).bind fun v21=>
bif (v21 == 0)then(
(zdv x9 x12.a0).bind fun r36=>
(((zgM r36.2).bind fun r38=>
(zbe r14.1 r14.2 r36.1 r38).bind fun r40=>
bif r40 then(
(zdz x9 x12.a0).bind fun r43=>
(zbe r16.1 r16.2 r43 0).bind fun r45=>
some (!r45))
else(
some true):Option Bool)).bind fun v134=>
bif v134 then(
some (.ret false))
else(
((bif (decide (x12.a1<0))then(
some true)
else(
(zbw x9 x12.a0).bind fun r49=>
(za4 x9.cards r49).bind fun x51=>
some (decide (x51≤x12.a1))):Option Bool)).bind fun v150=>
bif v150 then(
(zbe r18.1 r18.2 r18.1 2).bind fun r59=>
bif r59 then(
some (.go ()))
else(
some (.ret false)))
else(
(zfu N x9 x12.a0 x12.a1).bind fun r54=>
(zbe r18.1 r18.2 r54 0).bind fun r56=>
bif r56 then(
some (.go ()))
else(
some (.ret false)))))
else(
(((zbe r14.1 r14.2 r14.1 v21).bind fun r27=>
bif r27 then(
(zbe r16.1 r16.2 r16.1 v21).bind fun r30=>
bif r30 then(
(zbe r18.1 r18.2 r18.1 v21).bind fun r33=>
some (!r33))
else(
some true))
else(
some true):Option Bool)).bind fun v110=>
bif v110 then(
some (.ret false))
else(
some (.go ()))):Option (Out Unit Bool))).bind fun o=>match o with
| .go _=>(
zaA N p1 p2 p4 x9 n (w64 (v51+1)))
| .ret r=>some (.ret r))
else(
some (.go ())))
def zaN(N:Nat)(r4:S_api_Factor)(r6:S_api_Factor)(p1:Int)(p2:Int)(p4:Int):Nat→Int→Option (Out Unit Bool)
 | 0,_=>none
 | n+1,v31=>(
bif (decide (v31<2))then(
(za4 [r4,r6] v31).bind fun x9=>
((zaA N p1 p2 p4 x9 (3 - 0+2:Int).toNat 0:Option (Out Unit Bool))).bind fun o=>match o with
| .go _=>(
zaN N r4 r6 p1 p2 p4 n (w64 (v31+1)))
| .ret r=>some (.ret r))
else(
some (.go ())))
def zbT(N:Nat)(p0:S_api_Factor)(p1:Int)(p2:Int)(p3:S_haruspexref03_Draft)(p4:Int):Option Bool:=
(zdl).bind fun r1=>
bif r1 then(
(zfd p0).bind fun r4=>
(zbj N p3).bind fun r6=>
((zaN N r4 r6 p1 p2 p4 (2 - 0+2:Int).toNat 0:Option (Out Unit Bool))).bind fun o=>match o with
| .go _=>(
some true)
| .ret r=>some r)
else(
some false)
def zd3:C:=
 .seq (rg [oW 5 0,
 oW 8 3,
 oJ 10 false])
 (.seq (.seq (rg [⟨some 24,.call 20 [],none⟩,
 ⟨some 25,.un .not (.s 24),none⟩])
 (.cond (.s 25) (.seq (rg [oJ 10 false])
 (.ret))
 (.skip)))
 (.seq (.seq (.reg true true [oN 26 3 5,
 oN 28 3 8,
 oK 31 0,
 oU 27 21 26,
 oU 29 22 28,
 ⟨some 30,.build [(.slice none 0 0),(.slice none 0 0),(.slice none 0 0),(.slice none 0 0),(.slice none 0 0),(.slice none 0 0)] [(0,3,(.s 27)),(3,3,(.s 29))],none⟩])
 (.scope (.block 0 (.loop (.seq (rg [oD 32 .lss 31 2])
 (.seq (.cond (.s 32) (.skip)
 (.exit 0))
 (.seq (.block 1 (.seq (rg [⟨some 33,.idxV (some 3) 2 (.s 30) (.s 31),none⟩,
 ⟨some 12,.alloc [(.slice none 0 0),(.slice none 0 0),(.slice none 0 0)],none⟩,
 oS 3 12 33])
 (.seq (rg [oM 34 1,
 oM 35 2,
 ⟨some 36,.build [(.int .i64 0),(.int .i64 0)] [(0,1,(.s 34)),(1,1,(.s 35))],none⟩,
 oM 37 4,
 ⟨some 38,.bin .rem (.s 37) (.c (.int .u8 5)),none⟩,
 ⟨some 39,.conv .i64 (.s 38),none⟩,
 oM 40 2,
 ⟨some 41,.build [(.int .i64 0),(.int .i64 0)] [(0,1,(.s 39)),(1,1,(.s 40))],none⟩,
 oM 42 4,
 ⟨some 43,.bin .rem (.s 42) (.c (.int .u8 5)),none⟩,
 ⟨some 44,.conv .i64 (.s 43),none⟩,
 oM 45 4,
 ⟨some 46,.bin .quo (.s 45) (.c (.int .u8 5)),none⟩,
 ⟨some 47,.bin .rem (.s 46) (.c (.int .u8 3)),none⟩,
 ⟨some 48,.conv .i64 (.s 47),none⟩,
 ⟨some 49,.build [(.int .i64 0),(.int .i64 0)] [(0,1,(.s 44)),(1,1,(.s 48))],none⟩,
 ⟨some 50,.build [(.int .i64 0),(.int .i64 0),(.int .i64 0),(.int .i64 0),(.int .i64 0),(.int .i64 0)] [(0,2,(.s 36)),(2,2,(.s 41)),(4,2,(.s 49))],none⟩,
 oK 51 0])
 (.scope (.block 2 (.loop (.seq (rg [oD 52 .lss 51 3])
 (.seq (.cond (.s 52) (.skip)
 (.exit 2))
 (.seq (.scope (.block 3 (.seq (rg [⟨some 53,.idxV (some 2) 3 (.s 50) (.s 51),none⟩,
 ⟨some 14,.alloc [(.int .i64 0),(.int .i64 0)],none⟩,
 oS 2 14 53])
 (.seq (rg [oN 55 3 12,
 ⟨some 56,.idxA 1 2 (.s 14) (.c (.int .i64 0)),none⟩,
 oL 57 56,
 oV 58 32 55 57,
 oM 54 58,
 oX 59 54 0,
 oX 60 54 1,
 ⟨some 15,.alloc [(.slice none 0 0),(.slice none 0 0),(.slice none 0 0)],none⟩,
 oS 3 15 59,
 oM 16 60])
 (.seq (rg [oN 62 3 12,
 ⟨some 63,.idxA 1 2 (.s 14) (.c (.int .i64 0)),none⟩,
 oL 64 63,
 oV 65 33 62 64,
 oM 61 65,
 oX 66 61 0,
 oX 67 61 1,
 ⟨some 17,.alloc [(.slice none 0 0),(.slice none 0 0),(.slice none 0 0)],none⟩,
 oS 3 17 66,
 oM 18 67])
 (.seq (rg [oN 69 3 12,
 ⟨some 70,.idxA 1 2 (.s 14) (.c (.int .i64 0)),none⟩,
 oL 71 70,
 ⟨some 72,.idxA 1 2 (.s 14) (.c (.int .i64 1)),none⟩,
 oL 73 72,
 ⟨some 74,.call 34 [(.s 69),(.s 71),(.s 73)],none⟩,
 oM 68 74,
 oX 75 68 0,
 oX 76 68 1,
 ⟨some 19,.alloc [(.slice none 0 0),(.slice none 0 0),(.slice none 0 0)],none⟩,
 oS 3 19 75,
 oM 20 76])
 (.seq (rg [oK 21 0])
 (.seq (.block 4 (.seq (rg [oN 78 3 12,
 oU 79 23 78,
 ⟨some 80,.un .not (.s 79),none⟩,
 oM 77 80])
 (.scope (.cond (.s 77) (rg [oK 21 30])
 (.seq (rg [oN 82 3 12,
 ⟨some 83,.idxA 1 2 (.s 14) (.c (.int .i64 0)),none⟩,
 oL 84 83,
 oV 85 35 82 84,
 oD 86 .lss 85 0,
 oM 81 86])
 (.cond (.s 81) (rg [oK 21 4])
 (.skip)))))))
 (.seq (.seq (rg [oM 87 21,
 oD 88 .neq 87 0])
 (.cond (.s 88) (.seq (.seq (.scope (rg [oN 89 3 15,
 oM 90 16,
 oN 91 3 15,
 oM 92 21,
 ⟨some 93,.call 27 [(.s 89),(.s 90),(.s 91),(.s 92)],none⟩,
 ⟨some 94,.un .not (.s 93),none⟩,
 oM 95 94,
 ⟨some 96,.load (some 3) (.s 17),some (95,false)⟩,
 oMg 97 18 95 false,
 ⟨some 98,.load (some 3) (.s 17),some (95,false)⟩,
 oMg 99 21 95 false,
 ⟨some 100,.call 27 [(.s 96),(.s 97),(.s 98),(.s 99)],some (95,false)⟩,
 ⟨some 101,.un .not (.s 100),some (95,false)⟩,
 oP 102 95 101,
 oM 103 102,
 ⟨some 104,.load (some 3) (.s 19),some (103,false)⟩,
 oMg 105 20 103 false,
 ⟨some 106,.load (some 3) (.s 19),some (103,false)⟩,
 oMg 107 21 103 false,
 ⟨some 108,.call 27 [(.s 104),(.s 105),(.s 106),(.s 107)],some (103,false)⟩,
 ⟨some 109,.un .not (.s 108),some (103,false)⟩,
 oP 110 103 109]))
 (.cond (.s 110) (.seq (rg [oJ 10 false])
 (.ret))
 (.skip)))
 (.exit 3))
 (.skip)))
 (.seq (rg [oN 112 3 12,
 ⟨some 113,.idxA 1 2 (.s 14) (.c (.int .i64 0)),none⟩,
 oL 114 113,
 oV 115 36 112 114,
 oM 111 115,
 oX 116 111 0,
 oX 117 111 1,
 ⟨some 22,.alloc [(.slice none 0 0),(.slice none 0 0),(.slice none 0 0)],none⟩,
 oS 3 22 116,
 oM 23 117])
 (.seq (.seq (.scope (.reg true true [oN 118 3 15,
 oM 119 16,
 oN 120 3 22,
 oM 121 23,
 oU 122 37 121,
 ⟨some 123,.call 27 [(.s 118),(.s 119),(.s 120),(.s 122)],none⟩,
 ⟨some 124,.un .not (.s 123),none⟩,
 oM 125 124,
 ⟨some 126,.load (some 3) (.s 17),some (125,false)⟩,
 oMg 127 18 125 false,
 ⟨some 128,.load (some 3) (.s 12),some (125,false)⟩,
 ⟨some 129,.idxA 1 2 (.s 14) (.c (.int .i64 0)),some (125,false)⟩,
 oLg 130 129 125 false,
 ⟨some 131,.call 38 [(.s 128),(.s 130)],some (125,false)⟩,
 ⟨some 132,.call 27 [(.s 126),(.s 127),(.s 131),(.c (.int .i64 0))],some (125,false)⟩,
 ⟨some 133,.un .not (.s 132),some (125,false)⟩,
 oP 134 125 133]))
 (.cond (.s 134) (.seq (rg [oJ 10 false])
 (.ret))
 (.skip)))
 (.seq (.scope (.reg true true [⟨some 135,.idxA 1 2 (.s 14) (.c (.int .i64 1)),none⟩,
 oL 136 135,
 oD 137 .lss 136 0,
 oM 138 137,
 ⟨some 139,.idxA 1 2 (.s 14) (.c (.int .i64 1)),some (138,false)⟩,
 oLg 140 139 138 false,
 oFg 141 1 12 138 false,
 oLg 142 141 138 false,
 ⟨some 143,.load (some 3) (.s 12),some (138,false)⟩,
 ⟨some 144,.idxA 1 2 (.s 14) (.c (.int .i64 0)),some (138,false)⟩,
 oLg 145 144 138 false,
 ⟨some 146,.call 35 [(.s 143),(.s 145)],some (138,false)⟩,
 ⟨some 147,.idxS 1 (.s 142) (.s 146),some (138,false)⟩,
 oLg 148 147 138 false,
 ⟨some 149,.bin .geq (.s 140) (.s 148),some (138,false)⟩,
 oP 150 138 149]))
 (.cond (.s 150) (.seq (rg [oN 151 3 19,
 oM 152 20,
 oN 153 3 19,
 ⟨some 154,.call 27 [(.s 151),(.s 152),(.s 153),(.c (.int .i64 2))],none⟩,
 ⟨some 155,.un .not (.s 154),none⟩])
 (.cond (.s 155) (.seq (rg [oJ 10 false])
 (.ret))
 (.skip)))
 (.seq (.reg true true [oN 156 3 19,
 oM 157 20,
 oN 158 3 12,
 ⟨some 159,.idxA 1 2 (.s 14) (.c (.int .i64 0)),none⟩,
 oL 160 159,
 ⟨some 161,.idxA 1 2 (.s 14) (.c (.int .i64 1)),none⟩,
 oL 162 161,
 ⟨some 163,.call 39 [(.s 158),(.s 160),(.s 162)],none⟩,
 ⟨some 164,.call 27 [(.s 156),(.s 157),(.s 163),(.c (.int .i64 0))],none⟩,
 ⟨some 165,.un .not (.s 164),none⟩])
 (.cond (.s 165) (.seq (rg [oJ 10 false])
 (.ret))
 (.skip))))))))))))))))
 (rg [oD 166 .add 51 1,
 oM 51 166]))))))))))
 (rg [oD 167 .add 31 1,
 oM 31 167]))))))))
 (.seq (rg [oJ 10 true])
 (.ret))))
theorem zfh:zg2 mC 5=some (168,zd3,[.tmp 10],false):=za2 (by kernel_rfl)
theorem zfJ{N:Nat}{p0:S_api_Factor}{p1:Int}{p2:Int}{p3:S_haruspexref03_Draft}{p4:Int}{r:Bool}(h:zbT N p0 p1 p2 p3 p4=some r):Lx.Fn mC 5 [(.agg [(fzE false (eI .i64) p0.vars),(fzE false (eI .i64) p0.cards),(fzE false (eI .i64) p0.w)]),(dI p1),(dI p2),(.agg [(dU8 p3.which),(fzE false (eI .u8) p3.n),(dB p3.large)]),(dU8 p4)] (dB r):=by
 refine Fn.of zfh (zaW rfl) (qad rfl) ?_;unfold zbT at h;simp only[zd3,zjB];refine zaa ?_;obtain⟨r1,g2,h⟩:=bind_some h;try simp only[rnA,Nat.reduceEqDiff,Nat.reduceLT,Nat.reduceAdd,reduceCtorEq]
 refine EvL.fn (zkW g2) rfl rfl .nil ?_;try simp only[rnA,Nat.reduceEqDiff,Nat.reduceLT,reduceCtorEq]
 cases c3:r1
 ·rw[c3,cond_false]at h;try simp only[rnA,Nat.reduceLT]
  replace h:=qab h; subst h;exact zbI.ret rfl (.lit _)
 rw[c3,cond_true]at h;obtain⟨r4,g5,h⟩:=bind_some h;try simp only[rnA,Nat.reduceEqDiff,Nat.reduceLT,Nat.reduceAdd,Nat.reduceLeDiff,reduceCtorEq]
 refine EvL.fnS (zoh g5) rfl rfl (.cons (Mzs.agg (.cons (zaf _ _ (fun h=>by cases h<;>contradiction)) (.cons (zaf _ _ (fun h=>by cases h<;>contradiction)) (.cons (zaf _ _ (fun h=>by cases h<;>contradiction)) .nil)))) .nil) ⟨⟨(zac _ _),(zac _ _),(zac _ _),qcj⟩,qcj⟩ ⟨(zac _ _),(zac _ _),(zac _ _),qcj⟩ ?_;obtain⟨r6,g7,h⟩:=bind_some h;try simp only[rnA,Nat.reduceLT]
 refine EvL.fn (zf8 g7) rfl rfl (.cons (.zaU (.cons (.lit _) (.cons (zab _ _ (fun h=>nomatch h)) (.cons (.lit _) .nil)))) .nil) ?_;try simp only[rnA,Nat.reduceEqDiff,Nat.reduceLT,Nat.reduceAdd,Nat.reduceLeDiff,reduceCtorEq]
 obtain⟨o225,j225,h⟩:=bind_some h;obtain⟨T225,hT225⟩:=mkT fun a:Unit=>⟨168,[],[]⟩
 refine EvL.jn T225 (fun a=>o225=.go a) ?_ ?_
 ·refine zaa ?_;simp only[rnA];obtain⟨T394,hT394⟩:=mkT fun a:Int=>⟨168,[(1,(dI p1)),(2,(dI p2)),(4,(dU8 p4)),(30,(.agg [(fzE false (eI .i64) r4.vars),(fzE false (eI .i64) r4.cards),(fzE false (eI .i64) r4.w),(fzE false (eI .i64) r6.vars),(fzE false (eI .i64) r6.cards),(fzE false (eI .i64) r6.w)])),(31,(dI a))],[]⟩
  refine EvL.rounds (α:=Int) T394 (fun n a=>zaN N r4 r6 p1 p2 p4 n a=some o225) (2 - 0+2:Int).toNat 0 (by rw[hT394]; exact zby.m0 [] rfl (msq (msq (msq (mx rfl (Mo.zaU (.cons (.same trivial) (.cons (.same trivial) (.cons (.same trivial) (.cons (.fr (zaf _ _ (fun h=>by cases h<;>contradiction))) (.cons (.fr (zaf _ _ (fun h=>by cases h<;>contradiction))) (.cons (.fr (zaf _ _ (fun h=>by cases h<;>contradiction))) .nil))))))) (msq trivial))))) trivial) j225 (fun _ h=>nomatch (show(none:Option (Out Unit Bool))=some o225 from h)) ?_;rintro n v31 j225;simp only[zaN]at j225;rw[congrFun hT394 v31];refine zaa ?_;try simp only[rnA,Nat.reduceEqDiff,Nat.reduceLT]
  cases c8:(decide (v31<2))
  ·rw[c8,cond_false]at j225;try simp only[rnA]
   replace j225:=qab j225; subst j225;exact lfj hT225 rfl (wm0 [] (by exact trivial))
  rw[c8,cond_true]at j225;obtain⟨x9,g10,j225⟩:=bind_some j225;try simp only[rnA,Nat.reduceEqDiff,Nat.reduceLT,Nat.reduceAdd,Nat.reduceLeDiff,Int.reduceBEq,zaZ g10,(show v31<((2:Nat):Int)from zaY g10),qbi,(show([(fzE false (eI .i64) r4.vars),(fzE false (eI .i64) r4.cards),(fzE false (eI .i64) r4.w),(fzE false (eI .i64) r6.vars),(fzE false (eI .i64) r6.cards),(fzE false (eI .i64) r6.w)].drop (v31.toNat * 3)).take 3=[(fzE false (eI .i64) x9.vars),(fzE false (eI .i64) x9.cards),(fzE false (eI .i64) x9.w)]from zm6 (e:=zak) (t:=false) rfl g10 rfl),(show v31.toNat * 3+3≤6 from zrY (e:=zak) rfl g10)]
  obtain⟨o422,j422,j225⟩:=bind_some j225;obtain⟨T422,hT422⟩:=mkT fun a:Unit=>⟨168,[(1,(dI p1)),(2,(dI p2)),(4,(dU8 p4)),(30,(.agg [(fzE false (eI .i64) r4.vars),(fzE false (eI .i64) r4.cards),(fzE false (eI .i64) r4.w),(fzE false (eI .i64) r6.vars),(fzE false (eI .i64) r6.cards),(fzE false (eI .i64) r6.w)])),(31,(dI v31))],[]⟩
  refine EvL.jn T422 (fun a=>o422=.go a) ?_ ?_
  ·refine zaa ?_;simp only[rnA];obtain⟨T441,hT441⟩:=mkT fun a:Int=>⟨168,[(1,(dI p1)),(2,(dI p2)),(4,(dU8 p4)),(12,(.ptr 0 0)),(30,(.agg [(fzE false (eI .i64) r4.vars),(fzE false (eI .i64) r4.cards),(fzE false (eI .i64) r4.w),(fzE false (eI .i64) r6.vars),(fzE false (eI .i64) r6.cards),(fzE false (eI .i64) r6.w)])),(31,(dI v31)),(50,(.agg [(dI p1),(dI p2),(dI (w64 (p4.tmod 5))),(dI p2),(dI (w64 (p4.tmod 5))),(dI (w64 ((IntKind.u8.wrap (p4.tdiv 5)).tmod 3)))])),(51,(dI a))],[.cells [(fzE false (eI .i64) x9.vars),(fzE false (eI .i64) x9.cards),(fzE false (eI .i64) x9.w)]]⟩
   refine EvL.rounds (α:=Int) T441 (fun n a=>zaA N p1 p2 p4 x9 n a=some o422) (3 - 0+2:Int).toNat 0 (by rw[hT441]; exact wm0 [.k] ⟨MB.cs ⟨qcj,qcj,qcj,qcj⟩,qcj⟩) j422 (fun _ h=>nomatch (show(none:Option (Out Unit Bool))=some o422 from h)) ?_;rintro n v51 j422;simp only[zaA]at j422;rw[congrFun hT441 v51];refine zaa ?_;try simp only[rnA,Nat.reduceEqDiff,Nat.reduceLT]
   cases c11:(decide (v51<3))
   ·rw[c11,cond_false]at j422;try simp only[rnA,Nat.reduceEqDiff,Nat.reduceLT,reduceCtorEq]
    replace j422:=qab j422; subst j422;exact lfj hT422 rfl (wm0 [] (by exact trivial))
   rw[c11,cond_true]at j422;try simp only[rnA]
   obtain⟨o446,j446,j422⟩:=bind_some j422;obtain⟨T446,hT446⟩:=mkT fun a:Unit=>⟨168,[(1,(dI p1)),(2,(dI p2)),(4,(dU8 p4)),(12,(.ptr 0 0)),(30,(.agg [(fzE false (eI .i64) r4.vars),(fzE false (eI .i64) r4.cards),(fzE false (eI .i64) r4.w),(fzE false (eI .i64) r6.vars),(fzE false (eI .i64) r6.cards),(fzE false (eI .i64) r6.w)])),(31,(dI v31)),(50,(.agg [(dI p1),(dI p2),(dI (w64 (p4.tmod 5))),(dI p2),(dI (w64 (p4.tmod 5))),(dI (w64 ((IntKind.u8.wrap (p4.tdiv 5)).tmod 3)))])),(51,(dI v51))],[.cells [(fzE false (eI .i64) x9.vars),(fzE false (eI .i64) x9.cards),(fzE false (eI .i64) x9.w)]]⟩
   refine EvL.jn T446 (fun a=>o446=.go a) ?_ ?_
   ·refine zaa ?_;obtain⟨x12,g13,j446⟩:=bind_some j446;obtain⟨r14,g15,j446⟩:=bind_some j446;try simp only[rnA,Nat.reduceEqDiff,Nat.reduceLT,Nat.reduceAdd,Nat.reduceLeDiff,Int.reduceLE,Int.reduceLT,zaZ g13,(show v51<(3:Int)from zaY g13),qbi,(show([(dI p1),(dI p2),(dI (w64 (p4.tmod 5))),(dI p2),(dI (w64 (p4.tmod 5))),(dI (w64 ((IntKind.u8.wrap (p4.tdiv 5)).tmod 3)))].drop (v51.toNat * 2)).take 2=[(dI x12.a0),(dI x12.a1)]from zm6 (e:=zi1) (t:=true) rfl g13 rfl),(show v51.toNat * 2+2≤6 from zrY (e:=zi1) rfl g13),Int.reduceToNat,qbl,qbg]
    refine EvL.fnS (zdE g15) rfl rfl (.cons (Mzs.agg (.cons (zaf _ _ (fun h=>by cases h<;>contradiction)) (.cons (zaf _ _ (fun h=>by cases h<;>contradiction)) (.cons (zaf _ _ (fun h=>by cases h<;>contradiction)) .nil)))) (.cons (.lit _) .nil)) ⟨⟨(zac _ _),(zac _ _),(zac _ _),qcj⟩,qcj,qcj⟩ ⟨⟨(zac _ _),(zac _ _),(zac _ _),qcj⟩,qcj,qcj⟩ ?_;obtain⟨r16,g17,j446⟩:=bind_some j446;try simp only[rnA,Nat.reduceEqDiff,Nat.reduceLT,Nat.reduceAdd,Nat.reduceLeDiff,Int.reduceLE,Int.reduceLT,Int.reduceToNat,qbl,qbg]
    refine EvL.fnS (zeT g17) rfl rfl (.cons (Mzs.agg (.cons (zaf _ _ (fun h=>by cases h<;>contradiction)) (.cons (zaf _ _ (fun h=>by cases h<;>contradiction)) (.cons (zaf _ _ (fun h=>by cases h<;>contradiction)) .nil)))) (.cons (.lit _) .nil)) ⟨⟨(zac _ _),(zac _ _),(zac _ _),qcj⟩,qcj,qcj⟩ ⟨⟨(zac _ _),(zac _ _),(zac _ _),qcj⟩,qcj,qcj⟩ ?_;obtain⟨r18,g19,j446⟩:=bind_some j446;try simp only[rnA,Nat.reduceEqDiff,Nat.reduceLT,Nat.reduceAdd,Nat.reduceLeDiff,Int.reduceLE,Int.reduceLT,Int.reduceToNat,qbl,qbg,qbD]
    refine EvL.fn (zeO g19) rfl rfl (.cons (.zaU (.cons (zab _ _ (fun h=>nomatch h)) (.cons (zab _ _ (fun h=>nomatch h)) (.cons (zab _ _ (fun h=>nomatch h)) .nil)))) (.cons (.lit _) (.cons (.lit _) .nil))) ?_;obtain⟨r20,g21,j446⟩:=bind_some j446;try simp only[rnA,Nat.reduceEqDiff,Nat.reduceLT,Nat.reduceAdd,Nat.reduceLeDiff]
    refine EvL.fn (zkO g21) rfl rfl (.cons (.zaU (.cons (zab _ _ (fun h=>nomatch h)) (.cons (zab _ _ (fun h=>nomatch h)) (.cons (zab _ _ (fun h=>nomatch h)) .nil)))) .nil) ?_;try simp only[rnA,Nat.reduceEqDiff,Nat.reduceLT]
    obtain⟨o447,j447,j446⟩:=bind_some j446;obtain⟨T447,hT447⟩:=mkT fun a:Int=>⟨168,[(1,(dI p1)),(2,(dI p2)),(4,(dU8 p4)),(12,(.ptr 0 0)),(14,(.ptr 1 0)),(15,(.ptr 2 0)),(16,(dI r14.2)),(17,(.ptr 3 0)),(18,(dI r16.2)),(19,(.ptr 4 0)),(20,(dI r18.2)),(21,(dI a)),(30,(.agg [(fzE false (eI .i64) r4.vars),(fzE false (eI .i64) r4.cards),(fzE false (eI .i64) r4.w),(fzE false (eI .i64) r6.vars),(fzE false (eI .i64) r6.cards),(fzE false (eI .i64) r6.w)])),(31,(dI v31)),(50,(.agg [(dI p1),(dI p2),(dI (w64 (p4.tmod 5))),(dI p2),(dI (w64 (p4.tmod 5))),(dI (w64 ((IntKind.u8.wrap (p4.tdiv 5)).tmod 3)))])),(51,(dI v51))],[.cells [(fzE false (eI .i64) x9.vars),(fzE false (eI .i64) x9.cards),(fzE false (eI .i64) x9.w)],.cells [(dI x12.a0),(dI x12.a1)],.cells [(fzE false (eI .i64) r14.1.vars),(fzE false (eI .i64) r14.1.cards),(fzE false (eI .i64) r14.1.w)],.cells [(fzE false (eI .i64) r16.1.vars),(fzE false (eI .i64) r16.1.cards),(fzE false (eI .i64) r16.1.w)],.cells [(fzE true (eI .i64) r18.1.vars),(fzE true (eI .i64) r18.1.cards),(fzE true (eI .i64) r18.1.w)]]⟩
    refine EvL.jn T447 (fun a=>a=o447) ?_ ?_
    ·refine zaa ?_;try simp only[rnA,Nat.reduceEqDiff]
     cases c22:r20
     ·rw[c22,cond_false]at j447;try simp only[rnA,Nat.reduceLT]
      replace j447:=qab j447; subst j447;exact lfj hT447 rfl (wm0 [.k,.k,.k,.k,.k] ⟨MB.cs ⟨qcj,qcj,qcj,qcj⟩,⟨MB.cs ⟨qcj,qcj,qcj⟩,⟨MB.cs ⟨qcj,qcj,qcj,qcj⟩,⟨MB.cs ⟨qcj,qcj,qcj,qcj⟩,⟨MB.cs ⟨qcj,qcj,qcj,qcj⟩,qcj⟩⟩⟩⟩⟩)
     rw[c22,cond_true]at j447;obtain⟨r23,g24,j447⟩:=bind_some j447;try simp only[rnA,Nat.reduceEqDiff,Nat.reduceLT,Nat.reduceAdd,Nat.reduceLeDiff,Int.reduceLE,Int.reduceLT,Int.reduceToNat,qbl,qbg]
     refine EvL.fn (zee g24) rfl rfl (.cons (.zaU (.cons (zab _ _ (fun h=>nomatch h)) (.cons (zab _ _ (fun h=>nomatch h)) (.cons (zab _ _ (fun h=>nomatch h)) .nil)))) (.cons (.lit _) .nil)) ?_;try simp only[rnA,Nat.reduceEqDiff,Nat.reduceLT]
     cases c25:(decide (r23<0))
     ·rw[c25,cond_false]at j447;try simp only[rnA]
      replace j447:=qab j447; subst j447;exact lfj hT447 rfl (wm0 [.k,.k,.k,.k,.k] ⟨MB.cs ⟨qcj,qcj,qcj,qcj⟩,⟨MB.cs ⟨qcj,qcj,qcj⟩,⟨MB.cs ⟨qcj,qcj,qcj,qcj⟩,⟨MB.cs ⟨qcj,qcj,qcj,qcj⟩,⟨MB.cs ⟨qcj,qcj,qcj,qcj⟩,qcj⟩⟩⟩⟩⟩)
     rw[c25,cond_true]at j447;try simp only[rnA,Nat.reduceLT]
     replace j447:=qab j447; subst j447;exact lfj hT447 rfl (wm0 [.k,.k,.k,.k,.k] ⟨MB.cs ⟨qcj,qcj,qcj,qcj⟩,⟨MB.cs ⟨qcj,qcj,qcj⟩,⟨MB.cs ⟨qcj,qcj,qcj,qcj⟩,⟨MB.cs ⟨qcj,qcj,qcj,qcj⟩,⟨MB.cs ⟨qcj,qcj,qcj,qcj⟩,qcj⟩⟩⟩⟩⟩)
    rintro v21 rfl;rw[congrFun hT447 v21];refine zaa ?_;try simp only[rnA,Nat.reduceEqDiff,Nat.reduceLT]
    cases c26:(v21 == 0)
    ·rw[c26,cond_false]at j446;try simp only[rnA]
     obtain⟨o448,j448,j446⟩:=bind_some j446;obtain⟨T448,hT448⟩:=mkT fun a:Bool=>⟨168,[(1,(dI p1)),(2,(dI p2)),(4,(dU8 p4)),(12,(.ptr 0 0)),(30,(.agg [(fzE false (eI .i64) r4.vars),(fzE false (eI .i64) r4.cards),(fzE false (eI .i64) r4.w),(fzE false (eI .i64) r6.vars),(fzE false (eI .i64) r6.cards),(fzE false (eI .i64) r6.w)])),(31,(dI v31)),(50,(.agg [(dI p1),(dI p2),(dI (w64 (p4.tmod 5))),(dI p2),(dI (w64 (p4.tmod 5))),(dI (w64 ((IntKind.u8.wrap (p4.tdiv 5)).tmod 3)))])),(51,(dI v51)),(110,(dB a))],[.cells [(fzE false (eI .i64) x9.vars),(fzE false (eI .i64) x9.cards),(fzE false (eI .i64) x9.w)]]⟩
     refine EvL.jn T448 (fun a=>a=o448) ?_ ?_
     ·refine zaa ?_;obtain⟨r27,g28,j448⟩:=bind_some j448;try simp only[rnA,Nat.reduceEqDiff,Nat.reduceLT,Nat.reduceAdd,Nat.reduceLeDiff]
      refine EvL.fn (zcB g28) rfl rfl (.cons (.zaU (.cons (zab _ _ (fun h=>nomatch h)) (.cons (zab _ _ (fun h=>nomatch h)) (.cons (zab _ _ (fun h=>nomatch h)) .nil)))) (.cons (.lit _) (.cons (.zaU (.cons (zab _ _ (fun h=>nomatch h)) (.cons (zab _ _ (fun h=>nomatch h)) (.cons (zab _ _ (fun h=>nomatch h)) .nil)))) (.cons (.lit _) .nil)))) ?_;try simp only[rnA,Nat.reduceEqDiff,Nat.reduceLT]
      cases c29:r27
      ·rw[c29,cond_false]at j448;try simp only[rnA,Nat.reduceEqDiff,Nat.reduceLT]
       refine EvL.skip rfl ?_;try simp only[rnA,Nat.reduceEqDiff,Nat.reduceLT]
       refine EvL.skip rfl ?_;try simp only[rnA,Nat.reduceEqDiff,Nat.reduceLT]
       replace j448:=qab j448; subst j448;exact lfj hT448 rfl (wm0 [.k] ⟨MB.cs ⟨qcj,qcj,qcj,qcj⟩,qcj⟩)
      rw[c29,cond_true]at j448;obtain⟨r30,g31,j448⟩:=bind_some j448;try simp only[rnA,Nat.reduceEqDiff,Nat.reduceLT,Nat.reduceAdd,Nat.reduceLeDiff]
      refine EvL.fn (zcB g31) rfl rfl (.cons (.zaU (.cons (zab _ _ (fun h=>nomatch h)) (.cons (zab _ _ (fun h=>nomatch h)) (.cons (zab _ _ (fun h=>nomatch h)) .nil)))) (.cons (.lit _) (.cons (.zaU (.cons (zab _ _ (fun h=>nomatch h)) (.cons (zab _ _ (fun h=>nomatch h)) (.cons (zab _ _ (fun h=>nomatch h)) .nil)))) (.cons (.lit _) .nil)))) ?_;try simp only[rnA,Nat.reduceEqDiff,Nat.reduceLT]
      cases c32:r30
      ·rw[c32,cond_false]at j448;try simp only[rnA,Nat.reduceEqDiff,Nat.reduceLT]
       refine EvL.skip rfl ?_;try simp only[rnA,Nat.reduceEqDiff,Nat.reduceLT]
       replace j448:=qab j448; subst j448;exact lfj hT448 rfl (wm0 [.k] ⟨MB.cs ⟨qcj,qcj,qcj,qcj⟩,qcj⟩)
      rw[c32,cond_true]at j448;obtain⟨r33,g34,j448⟩:=bind_some j448;try simp only[rnA,Nat.reduceEqDiff,Nat.reduceLT,Nat.reduceAdd,Nat.reduceLeDiff]
      refine EvL.fn (zcB g34) rfl rfl (.cons (.zaU (.cons (zab _ _ (fun h=>nomatch h)) (.cons (zab _ _ (fun h=>nomatch h)) (.cons (zab _ _ (fun h=>nomatch h)) .nil)))) (.cons (.lit _) (.cons (.zaU (.cons (zab _ _ (fun h=>nomatch h)) (.cons (zab _ _ (fun h=>nomatch h)) (.cons (zab _ _ (fun h=>nomatch h)) .nil)))) (.cons (.lit _) .nil)))) ?_;try simp only[rnA,Nat.reduceEqDiff,Nat.reduceLT]
      replace j448:=qab j448; subst j448;exact lfj hT448 rfl (wm0 [.k] ⟨MB.cs ⟨qcj,qcj,qcj,qcj⟩,qcj⟩)
     rintro v110 rfl;rw[congrFun hT448 v110];refine zaa ?_;try simp only[rnA,Nat.reduceEqDiff]
     cases c35:v110
     ·rw[c35,cond_false]at j446;try simp only[rnA,Nat.reduceEqDiff,Nat.reduceLT,reduceCtorEq]
      replace j446:=qab j446; subst j446;exact lfj hT446 rfl (wm0 [.k] ⟨MB.cs ⟨qcj,qcj,qcj,qcj⟩,qcj⟩)
     rw[c35,cond_true]at j446;try simp only[rnA,Nat.reduceLT]
     replace j446:=qab j446; subst j446;dsimp only at j422;replace j422:=qab j422; subst j422;dsimp only at j225;replace j225:=qab j225; subst j225;dsimp only at h;replace h:=qab h; subst h;exact zbI.ret rfl (.lit _)
    rw[c26,cond_true]at j446;obtain⟨r36,g37,j446⟩:=bind_some j446;try simp only[rnA,Nat.reduceEqDiff,Nat.reduceLT,Nat.reduceAdd,Nat.reduceLeDiff,Int.reduceLE,Int.reduceLT,Int.reduceToNat,qbl,qbg]
    refine EvL.fnS (zjy g37) rfl rfl (.cons (Mzs.agg (.cons (zaf _ _ (fun h=>by cases h<;>contradiction)) (.cons (zaf _ _ (fun h=>by cases h<;>contradiction)) (.cons (zaf _ _ (fun h=>by cases h<;>contradiction)) .nil)))) (.cons (.lit _) .nil)) ⟨⟨(zac _ _),(zac _ _),(zac _ _),qcj⟩,qcj,qcj⟩ ⟨⟨(zac _ _),(zac _ _),(zac _ _),qcj⟩,qcj,qcj⟩ ?_;try simp only[rnA,Nat.reduceEqDiff,Nat.reduceLT,Nat.reduceAdd,Nat.reduceLeDiff]
    obtain⟨o449,j449,j446⟩:=bind_some j446;obtain⟨T449,hT449⟩:=mkT fun a:Bool=>⟨168,[(1,(dI p1)),(2,(dI p2)),(4,(dU8 p4)),(12,(.ptr 0 0)),(14,(.ptr 1 0)),(19,(.ptr 4 0)),(20,(dI r18.2)),(30,(.agg [(fzE false (eI .i64) r4.vars),(fzE false (eI .i64) r4.cards),(fzE false (eI .i64) r4.w),(fzE false (eI .i64) r6.vars),(fzE false (eI .i64) r6.cards),(fzE false (eI .i64) r6.w)])),(31,(dI v31)),(50,(.agg [(dI p1),(dI p2),(dI (w64 (p4.tmod 5))),(dI p2),(dI (w64 (p4.tmod 5))),(dI (w64 ((IntKind.u8.wrap (p4.tdiv 5)).tmod 3)))])),(51,(dI v51)),(134,(dB a))],[.cells [(fzE false (eI .i64) x9.vars),(fzE false (eI .i64) x9.cards),(fzE false (eI .i64) x9.w)],.cells [(dI x12.a0),(dI x12.a1)],.gone,.gone,.cells [(fzE true (eI .i64) r18.1.vars),(fzE true (eI .i64) r18.1.cards),(fzE true (eI .i64) r18.1.w)]]⟩
    refine EvL.jn T449 (fun a=>a=o449) ?_ ?_
    ·refine zaa ?_;obtain⟨r38,g39,j449⟩:=bind_some j449;try simp only[rnA,Nat.reduceEqDiff,Nat.reduceLT,Nat.reduceAdd,Nat.reduceLeDiff]
     refine EvL.fn (zoc g39) rfl rfl (.cons (.lit _) .nil) ?_;obtain⟨r40,g41,j449⟩:=bind_some j449;try simp only[rnA,Nat.reduceLT]
     refine EvL.fn (zcB g41) rfl rfl (.cons (.zaU (.cons (zab _ _ (fun h=>nomatch h)) (.cons (zab _ _ (fun h=>nomatch h)) (.cons (zab _ _ (fun h=>nomatch h)) .nil)))) (.cons (.lit _) (.cons (.zaU (.cons (zab _ _ (fun h=>nomatch h)) (.cons (zab _ _ (fun h=>nomatch h)) (.cons (zab _ _ (fun h=>nomatch h)) .nil)))) (.cons (.lit _) .nil)))) ?_;try simp only[rnA,Nat.reduceEqDiff,Nat.reduceLT]
     cases c42:r40
     ·rw[c42,cond_false]at j449;try simp only[rnA,Nat.reduceEqDiff,Nat.reduceLT]
      refine EvL.skip rfl ?_;try simp only[rnA,Nat.reduceLT]
      refine EvL.skip rfl ?_;try simp only[rnA,Nat.reduceEqDiff,Nat.reduceLT]
      replace j449:=qab j449; subst j449;exact lfj hT449 rfl (wm0 [.k,.k,.d,.d,.k] ⟨MB.cs ⟨qcj,qcj,qcj,qcj⟩,⟨MB.cs ⟨qcj,qcj,qcj⟩,⟨rfl,⟨rfl,⟨MB.cs ⟨qcj,qcj,qcj,qcj⟩,qcj⟩⟩⟩⟩⟩)
     rw[c42,cond_true]at j449;obtain⟨r43,g44,j449⟩:=bind_some j449;try simp only[rnA,Nat.reduceEqDiff,Nat.reduceLT,Nat.reduceAdd,Nat.reduceLeDiff,Int.reduceLE,Int.reduceLT,Int.reduceToNat,qbl,qbg]
     refine EvL.fnS (zke g44) rfl rfl (.cons (Mzs.agg (.cons (zaf _ _ (fun h=>by cases h<;>contradiction)) (.cons (zaf _ _ (fun h=>by cases h<;>contradiction)) (.cons (zaf _ _ (fun h=>by cases h<;>contradiction)) .nil)))) (.cons (.lit _) .nil)) ⟨⟨(zac _ _),(zac _ _),(zac _ _),qcj⟩,qcj,qcj⟩ ⟨(zac _ _),(zac _ _),(zac _ _),qcj⟩ ?_;obtain⟨r45,g46,j449⟩:=bind_some j449;try simp only[rnA,Nat.reduceLT]
     refine EvL.fn (zcB g46) rfl rfl (.cons (.zaU (.cons (zab _ _ (fun h=>nomatch h)) (.cons (zab _ _ (fun h=>nomatch h)) (.cons (zab _ _ (fun h=>nomatch h)) .nil)))) (.cons (.lit _) (.cons (.zaU (.cons (zab _ _ (fun h=>nomatch h)) (.cons (zab _ _ (fun h=>nomatch h)) (.cons (zab _ _ (fun h=>nomatch h)) .nil)))) (.cons (.lit _) .nil)))) ?_;try simp only[rnA,Nat.reduceEqDiff,Nat.reduceLT]
     replace j449:=qab j449; subst j449;exact lfj hT449 rfl (wm0 [.k,.k,.d,.d,.k] ⟨MB.cs ⟨qcj,qcj,qcj,qcj⟩,⟨MB.cs ⟨qcj,qcj,qcj⟩,⟨rfl,⟨rfl,⟨MB.cs ⟨qcj,qcj,qcj,qcj⟩,qcj⟩⟩⟩⟩⟩)
    rintro v134 rfl;rw[congrFun hT449 v134];refine zaa ?_;try simp only[rnA,Nat.reduceEqDiff]
    cases c47:v134
    ·rw[c47,cond_false]at j446;try simp only[rnA]
     obtain⟨o450,j450,j446⟩:=bind_some j446;obtain⟨T450,hT450⟩:=mkT fun a:Bool=>⟨168,[(1,(dI p1)),(2,(dI p2)),(4,(dU8 p4)),(12,(.ptr 0 0)),(14,(.ptr 1 0)),(19,(.ptr 4 0)),(20,(dI r18.2)),(30,(.agg [(fzE false (eI .i64) r4.vars),(fzE false (eI .i64) r4.cards),(fzE false (eI .i64) r4.w),(fzE false (eI .i64) r6.vars),(fzE false (eI .i64) r6.cards),(fzE false (eI .i64) r6.w)])),(31,(dI v31)),(50,(.agg [(dI p1),(dI p2),(dI (w64 (p4.tmod 5))),(dI p2),(dI (w64 (p4.tmod 5))),(dI (w64 ((IntKind.u8.wrap (p4.tdiv 5)).tmod 3)))])),(51,(dI v51)),(150,(dB a))],[.cells [(fzE false (eI .i64) x9.vars),(fzE false (eI .i64) x9.cards),(fzE false (eI .i64) x9.w)],.cells [(dI x12.a0),(dI x12.a1)],.gone,.gone,.cells [(fzE true (eI .i64) r18.1.vars),(fzE true (eI .i64) r18.1.cards),(fzE true (eI .i64) r18.1.w)]]⟩
     refine EvL.jn T450 (fun a=>a=o450) ?_ ?_
     ·refine zaa ?_;try simp only[rnA,Nat.reduceEqDiff,Nat.reduceLT,Int.reduceLE,Int.reduceLT,Int.reduceToNat,qbl,qbD]
      cases c48:(decide (x12.a1<0))
      ·rw[c48,cond_false]at j450;obtain⟨r49,g50,j450⟩:=bind_some j450;try simp only[rnA,Nat.reduceEqDiff,Nat.reduceLT,Nat.reduceAdd,Nat.reduceLeDiff,Int.reduceLE,Int.reduceLT,Int.reduceToNat,qbl,qbg,qbD]
       refine EvL.fn (zee g50) rfl rfl (.cons (.zaU (.cons (zab _ _ (fun h=>nomatch h)) (.cons (zab _ _ (fun h=>nomatch h)) (.cons (zab _ _ (fun h=>nomatch h)) .nil)))) (.cons (.lit _) .nil)) ?_;obtain⟨x51,g52,j450⟩:=bind_some j450;try simp only[rnA,Nat.reduceEqDiff,Nat.reduceLT,zam (n:=1) (e:=(eI .i64)) rfl g52]
       replace j450:=qab j450; subst j450;exact lfj hT450 rfl (wm0 [.k,.k,.d,.d,.k] ⟨MB.cs ⟨qcj,qcj,qcj,qcj⟩,⟨MB.cs ⟨qcj,qcj,qcj⟩,⟨rfl,⟨rfl,⟨MB.cs ⟨qcj,qcj,qcj,qcj⟩,qcj⟩⟩⟩⟩⟩)
      rw[c48,cond_true]at j450;try simp only[rnA,Nat.reduceEqDiff,Nat.reduceLT]
      refine EvL.skip rfl ?_;try simp only[rnA,Nat.reduceEqDiff,Nat.reduceLT]
      replace j450:=qab j450; subst j450;exact lfj hT450 rfl (wm0 [.k,.k,.d,.d,.k] ⟨MB.cs ⟨qcj,qcj,qcj,qcj⟩,⟨MB.cs ⟨qcj,qcj,qcj⟩,⟨rfl,⟨rfl,⟨MB.cs ⟨qcj,qcj,qcj,qcj⟩,qcj⟩⟩⟩⟩⟩)
     rintro v150 rfl;rw[congrFun hT450 v150];refine zaa ?_;try simp only[rnA,Nat.reduceEqDiff]
     cases c53:v150
     ·rw[c53,cond_false]at j446;obtain⟨r54,g55,j446⟩:=bind_some j446;try simp only[rnA,Nat.reduceEqDiff,Nat.reduceLT,Nat.reduceAdd,Nat.reduceLeDiff,Int.reduceLE,Int.reduceLT,Int.reduceToNat,qbl,qbg,qbD]
      refine EvL.fn (znU g55) rfl rfl (.cons (.zaU (.cons (zab _ _ (fun h=>nomatch h)) (.cons (zab _ _ (fun h=>nomatch h)) (.cons (zab _ _ (fun h=>nomatch h)) .nil)))) (.cons (.lit _) (.cons (.lit _) .nil))) ?_;obtain⟨r56,g57,j446⟩:=bind_some j446;try simp only[rnA,Nat.reduceLT]
      refine EvL.fn (zcB g57) rfl rfl (.cons (.zaU (.cons (zab _ _ (fun h=>nomatch h)) (.cons (zab _ _ (fun h=>nomatch h)) (.cons (zab _ _ (fun h=>nomatch h)) .nil)))) (.cons (.lit _) (.cons (.zaU (.cons (zab _ _ (fun h=>nomatch h)) (.cons (zab _ _ (fun h=>nomatch h)) (.cons (zab _ _ (fun h=>nomatch h)) .nil)))) (.cons (.lit _) .nil)))) ?_;try simp only[rnA,Nat.reduceEqDiff,Nat.reduceLT]
      cases c58:r56
      ·rw[c58,cond_false]at j446;try simp only[rnA,Nat.reduceLT]
       replace j446:=qab j446; subst j446;dsimp only at j422;replace j422:=qab j422; subst j422;dsimp only at j225;replace j225:=qab j225; subst j225;dsimp only at h;replace h:=qab h; subst h;exact zbI.ret rfl (.lit _)
      rw[c58,cond_true]at j446;try simp only[rnA]
      replace j446:=qab j446; subst j446;exact lfj hT446 rfl (wm0 [.k] ⟨MB.cs ⟨qcj,qcj,qcj,qcj⟩,qcj⟩)
     rw[c53,cond_true]at j446;obtain⟨r59,g60,j446⟩:=bind_some j446;try simp only[rnA,Nat.reduceEqDiff,Nat.reduceLT,Nat.reduceAdd,Nat.reduceLeDiff]
     refine EvL.fn (zcB g60) rfl rfl (.cons (.zaU (.cons (zab _ _ (fun h=>nomatch h)) (.cons (zab _ _ (fun h=>nomatch h)) (.cons (zab _ _ (fun h=>nomatch h)) .nil)))) (.cons (.lit _) (.cons (.zaU (.cons (zab _ _ (fun h=>nomatch h)) (.cons (zab _ _ (fun h=>nomatch h)) (.cons (zab _ _ (fun h=>nomatch h)) .nil)))) (.cons (.lit _) .nil)))) ?_;try simp only[rnA,Nat.reduceEqDiff,Nat.reduceLT]
     cases c61:r59
     ·rw[c61,cond_false]at j446;try simp only[rnA,Nat.reduceLT]
      replace j446:=qab j446; subst j446;dsimp only at j422;replace j422:=qab j422; subst j422;dsimp only at j225;replace j225:=qab j225; subst j225;dsimp only at h;replace h:=qab h; subst h;exact zbI.ret rfl (.lit _)
     rw[c61,cond_true]at j446;try simp only[rnA]
     replace j446:=qab j446; subst j446;exact lfj hT446 rfl (wm0 [.k] ⟨MB.cs ⟨qcj,qcj,qcj,qcj⟩,qcj⟩)
    rw[c47,cond_true]at j446;try simp only[rnA,Nat.reduceLT]
    replace j446:=qab j446; subst j446;dsimp only at j422;replace j422:=qab j422; subst j422;dsimp only at j225;replace j225:=qab j225; subst j225;dsimp only at h;replace h:=qab h; subst h;exact zbI.ret rfl (.lit _)
   rintro⟨⟩ rfl;dsimp only at j422;rw[congrFun hT446 ()];refine zaa ?_;try simp only[rnA,Nat.reduceEqDiff,Nat.reduceLT]
   exact⟨(w64 (v51+1)),j422,by rw[hT441]; exact wm0 [.k] ⟨MB.cs ⟨qcj,qcj,qcj,qcj⟩,qcj⟩⟩
  rintro⟨⟩ rfl;dsimp only at j225;rw[congrFun hT422 ()];refine zaa ?_;try simp only[rnA,Nat.reduceEqDiff,Nat.reduceLT]
  exact⟨(w64 (v31+1)),j225,by rw[hT394]; exact wm0 [] (by exact trivial)⟩
 rintro⟨⟩ rfl;dsimp only at h;rw[congrFun hT225 ()];refine zaa ?_;try simp only[rnA,Nat.reduceLT]
 replace h:=qab h; subst h;exact zbI.ret rfl (.lit _)
end Go.Dc
