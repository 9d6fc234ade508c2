/-
 What l03_FactorProducts computes. Conditions: none.
-/
import Derived.Test.YtnfgibomhkbcpaaFpJ5
set_option linter.unusedSimpArgs false
set_option linter.unusedVariables false
set_option maxRecDepth 100000
set_option maxHeartbeats 4000000
namespace Go.Dc
open Go Go.Mx Go.Lx Go.Proofs
def zau(N:Nat)(r4:S_api_Factor)(r6:S_api_Factor)(r8:S_api_Factor)(r10:S_api_Factor)(r12:S_api_Factor)(r14:S_api_Factor)(r16:S_api_Factor)(r18:S_api_Factor):Nat→Int→Option (Out Unit Bool)
 | 0,_=>none
 | n+1,v43=>(
bif (decide (v43<4))then(
(((za0 [(A2_S_api_Factor.mk r4 r6),(A2_S_api_Factor.mk r8 r10),(A2_S_api_Factor.mk r12 r14),(A2_S_api_Factor.mk r16 r18)] v43).bind fun x21=>
(zdg x21.a0).bind fun r23=>
(zbm x21.a0).bind fun r25=>
((bif r23 then(
bif (r25 == 0)then(
some (true,false))
else(
some (true,true)))
else(
bif (r25 == 0)then(
some (false,true))
else(
some (false,(!(r25 == 30))))):Option ((Bool×Bool)))).bind fun o=>match o with
|(v11,v63)=>(
bif v63 then(
some (.ret false))
else(
(zaL x21.a0 x21.a1).bind fun r31=>
(zaq x21.a0 x21.a1).bind fun r33=>
((bif v11 then(
(zdg x21.a1).bind fun r36=>
some (!r36))
else(
some true):Option Bool)).bind fun v87=>
bif v87 then(
(((zbn r31.1 r31.2 r31.1 30).bind fun r68=>
bif r68 then(
(zbn r33.1 r33.2 r33.1 30).bind fun r71=>
some (!r71))
else(
some true):Option Bool)).bind fun v99=>
bif v99 then(
some (.ret false))
else(
some (.go ())))
else(
(zdW x21.a0 x21.a1).bind fun r39=>
bif r39 then(
(zfk N x21.a0 x21.a1).bind fun r48=>
(zbn r31.1 r31.2 r48.1 r48.2).bind fun r50=>
bif r50 then(
(ze0 x21.a0 x21.a1).bind fun r53=>
bif r53 then(
(zdC N x21.a0 x21.a1).bind fun r59=>
((bif r59.2 then(
(zbn r33.1 r33.2 r59.1 0).bind fun r64=>
bif r64 then(
some false)
else(
some true))
else(
(zbn r33.1 r33.2 r59.1 4).bind fun r62=>
some (!r62)):Option Bool)).bind fun v169=>
bif v169 then(
some (.ret false))
else(
some (.go ())))
else(
(zbn r33.1 r33.2 r33.1 2).bind fun r56=>
bif r56 then(
some (.go ()))
else(
some (.ret false))))
else(
some (.ret false)))
else(
(((zbn r31.1 r31.2 r31.1 2).bind fun r42=>
bif r42 then(
(zbn r33.1 r33.2 r33.1 2).bind fun r45=>
some (!r45))
else(
some true):Option Bool)).bind fun v117=>
bif v117 then(
some (.ret false))
else(
some (.go ())))))):Option (Out Unit Bool))).bind fun o=>match o with
| .go _=>(
zau N r4 r6 r8 r10 r12 r14 r16 r18 n (w64 (v43+1)))
| .ret r=>some (.ret r))
else(
some (.go ())))
def zbG(N:Nat)(p0:S_api_Factor)(p1:S_api_Factor)(p2:S_haruspexref03_Draft)(p3:S_haruspexref03_Draft):Option Bool:=
(zdl).bind fun r1=>
bif r1 then(
(zdw p0).bind fun r4=>
(zdw p1).bind fun r6=>
(zdw p0).bind fun r8=>
(zaI N p3).bind fun r10=>
(zaI N p2).bind fun r12=>
(zdw p1).bind fun r14=>
(zaI N p2).bind fun r16=>
(zaI N p3).bind fun r18=>
((zau N r4 r6 r8 r10 r12 r14 r16 r18 (4 - 0+2:Int).toNat 0:Option (Out Unit Bool))).bind fun o=>match o with
| .go _=>(
some true)
| .ret r=>some r)
else(
some false)
def zdE:C:=
 .seq (rg [oW 4 0,
 oW 5 1,
 oW 6 2,
 oW 7 3,
 oJ 8 false])
 (.seq (.seq (rg [⟨some 20,.call 20 [],none⟩,
 ⟨some 21,.un .not (.s 20),none⟩])
 (.cond (.s 21) (.seq (rg [oJ 8 false])
 (.ret))
 (.skip)))
 (.seq (.seq (.reg true true [oN 22 3 4,
 oN 24 3 5,
 oN 27 3 4,
 oN 29 3 7,
 oN 32 3 6,
 oN 34 3 5,
 oN 37 3 6,
 oN 39 3 7,
 oK 43 0,
 oU 23 21 22,
 oU 25 21 24,
 ⟨some 26,.build [(.slice none 0 0),(.slice none 0 0),(.slice none 0 0),(.slice none 0 0),(.slice none 0 0),(.slice none 0 0)] [(0,3,(.s 23)),(3,3,(.s 25))],none⟩,
 oU 28 21 27,
 oU 30 22 29,
 ⟨some 31,.build [(.slice none 0 0),(.slice none 0 0),(.slice none 0 0),(.slice none 0 0),(.slice none 0 0),(.slice none 0 0)] [(0,3,(.s 28)),(3,3,(.s 30))],none⟩,
 oU 33 22 32,
 oU 35 21 34,
 ⟨some 36,.build [(.slice none 0 0),(.slice none 0 0),(.slice none 0 0),(.slice none 0 0),(.slice none 0 0),(.slice none 0 0)] [(0,3,(.s 33)),(3,3,(.s 35))],none⟩,
 oU 38 22 37,
 oU 40 22 39,
 ⟨some 41,.build [(.slice none 0 0),(.slice none 0 0),(.slice none 0 0),(.slice none 0 0),(.slice none 0 0),(.slice none 0 0)] [(0,3,(.s 38)),(3,3,(.s 40))],none⟩,
 ⟨some 42,.build [(.slice none 0 0),(.slice none 0 0),(.slice none 0 0),(.slice none 0 0),(.slice none 0 0),(.slice none 0 0),(.slice none 0 0),(.slice none 0 0),(.slice none 0 0),(.slice none 0 0),(.slice none 0 0),(.slice none 0 0),(.slice none 0 0),(.slice none 0 0),(.slice none 0 0),(.slice none 0 0),(.slice none 0 0),(.slice none 0 0),(.slice none 0 0),(.slice none 0 0),(.slice none 0 0),(.slice none 0 0),(.slice none 0 0),(.slice none 0 0)] [(0,6,(.s 26)),(6,6,(.s 31)),(12,6,(.s 36)),(18,6,(.s 41))],none⟩])
 (.scope (.block 0 (.loop (.seq (rg [oD 44 .lss 43 4])
 (.seq (.cond (.s 44) (.skip)
 (.exit 0))
 (.seq (.scope (.block 1 (.seq (rg [⟨some 45,.idxV (some 6) 4 (.s 42) (.s 43),none⟩,
 ⟨some 10,.alloc [(.slice none 0 0),(.slice none 0 0),(.slice none 0 0),(.slice none 0 0),(.slice none 0 0),(.slice none 0 0)],none⟩,
 oS 6 10 45])
 (.seq (rg [⟨some 46,.idxA 3 2 (.s 10) (.c (.int .i64 0)),none⟩,
 oN 47 3 46,
 oU 48 23 47,
 oM 11 48])
 (.seq (.seq (rg [⟨some 49,.idxA 3 2 (.s 10) (.c (.int .i64 0)),none⟩,
 oN 50 3 49,
 oU 51 24 50,
 oM 12 51])
 (.seq (.scope (rg [oM 52 11,
 oM 53 12,
 oD 54 .eql 53 0,
 ⟨some 55,.eqb true (.s 52) (.s 54),none⟩,
 oM 56 55,
 oMg 57 11 56 false,
 ⟨some 58,.un .not (.s 57),some (56,false)⟩,
 oMg 59 58 56 false,
 oMg 60 12 59 true,
 oDg 61 .neq 60 30 59 true,
 ⟨some 62,.pick (.s 59) (.s 61) (.c (.bool false)),some (56,false)⟩,
 oP 63 56 62]))
 (.cond (.s 63) (.seq (rg [oJ 8 false])
 (.ret))
 (.skip))))
 (.seq (rg [⟨some 65,.idxA 3 2 (.s 10) (.c (.int .i64 0)),none⟩,
 oN 66 3 65,
 ⟨some 67,.idxA 3 2 (.s 10) (.c (.int .i64 1)),none⟩,
 oN 68 3 67,
 oV 69 25 66 68,
 oM 64 69,
 oX 70 64 0,
 oX 71 64 1,
 ⟨some 13,.alloc [(.slice none 0 0),(.slice none 0 0),(.slice none 0 0)],none⟩,
 oS 3 13 70,
 oM 14 71])
 (.seq (rg [⟨some 73,.idxA 3 2 (.s 10) (.c (.int .i64 0)),none⟩,
 oN 74 3 73,
 ⟨some 75,.idxA 3 2 (.s 10) (.c (.int .i64 1)),none⟩,
 oN 76 3 75,
 oV 77 26 74 76,
 oM 72 77,
 oX 78 72 0,
 oX 79 72 1,
 ⟨some 15,.alloc [(.slice none 0 0),(.slice none 0 0),(.slice none 0 0)],none⟩,
 oS 3 15 78,
 oM 16 79])
 (.seq (.seq (.scope (rg [oM 80 11,
 ⟨some 81,.un .not (.s 80),none⟩,
 oM 82 81,
 ⟨some 83,.idxA 3 2 (.s 10) (.c (.int .i64 1)),some (82,false)⟩,
 ⟨some 84,.load (some 3) (.s 83),some (82,false)⟩,
 ⟨some 85,.call 23 [(.s 84)],some (82,false)⟩,
 ⟨some 86,.un .not (.s 85),some (82,false)⟩,
 oP 87 82 86]))
 (.cond (.s 87) (.seq (.seq (.scope (rg [oN 88 3 13,
 oM 89 14,
 oN 90 3 13,
 ⟨some 91,.call 27 [(.s 88),(.s 89),(.s 90),(.c (.int .i64 30))],none⟩,
 ⟨some 92,.un .not (.s 91),none⟩,
 oM 93 92,
 ⟨some 94,.load (some 3) (.s 15),some (93,false)⟩,
 oMg 95 16 93 false,
 ⟨some 96,.load (some 3) (.s 15),some (93,false)⟩,
 ⟨some 97,.call 27 [(.s 94),(.s 95),(.s 96),(.c (.int .i64 30))],some (93,false)⟩,
 ⟨some 98,.un .not (.s 97),some (93,false)⟩,
 oP 99 93 98]))
 (.cond (.s 99) (.seq (rg [oJ 8 false])
 (.ret))
 (.skip)))
 (.exit 1))
 (.skip)))
 (.seq (.seq (rg [⟨some 100,.idxA 3 2 (.s 10) (.c (.int .i64 0)),none⟩,
 oN 101 3 100,
 ⟨some 102,.idxA 3 2 (.s 10) (.c (.int .i64 1)),none⟩,
 oN 103 3 102,
 oV 104 28 101 103,
 ⟨some 105,.un .not (.s 104),none⟩])
 (.cond (.s 105) (.seq (.seq (.scope (rg [oN 106 3 13,
 oM 107 14,
 oN 108 3 13,
 ⟨some 109,.call 27 [(.s 106),(.s 107),(.s 108),(.c (.int .i64 2))],none⟩,
 ⟨some 110,.un .not (.s 109),none⟩,
 oM 111 110,
 ⟨some 112,.load (some 3) (.s 15),some (111,false)⟩,
 oMg 113 16 111 false,
 ⟨some 114,.load (some 3) (.s 15),some (111,false)⟩,
 ⟨some 115,.call 27 [(.s 112),(.s 113),(.s 114),(.c (.int .i64 2))],some (111,false)⟩,
 ⟨some 116,.un .not (.s 115),some (111,false)⟩,
 oP 117 111 116]))
 (.cond (.s 117) (.seq (rg [oJ 8 false])
 (.ret))
 (.skip)))
 (.exit 1))
 (.skip)))
 (.seq (rg [⟨some 119,.idxA 3 2 (.s 10) (.c (.int .i64 0)),none⟩,
 oN 120 3 119,
 ⟨some 121,.idxA 3 2 (.s 10) (.c (.int .i64 1)),none⟩,
 oN 122 3 121,
 oV 123 29 120 122,
 oM 118 123,
 oX 124 118 0,
 oX 125 118 1,
 ⟨some 17,.alloc [(.slice none 0 0),(.slice none 0 0),(.slice none 0 0)],none⟩,
 oS 3 17 124,
 oM 18 125])
 (.seq (.seq (rg [oN 126 3 13,
 oM 127 14,
 oN 128 3 17,
 oM 129 18,
 ⟨some 130,.call 27 [(.s 126),(.s 127),(.s 128),(.s 129)],none⟩,
 ⟨some 131,.un .not (.s 130),none⟩])
 (.cond (.s 131) (.seq (rg [oJ 8 false])
 (.ret))
 (.skip)))
 (.seq (.seq (rg [⟨some 132,.idxA 3 2 (.s 10) (.c (.int .i64 0)),none⟩,
 oN 133 3 132,
 ⟨some 134,.idxA 3 2 (.s 10) (.c (.int .i64 1)),none⟩,
 oN 135 3 134,
 oV 136 30 133 135,
 ⟨some 137,.un .not (.s 136),none⟩])
 (.cond (.s 137) (.seq (.seq (rg [oN 138 3 15,
 oM 139 16,
 oN 140 3 15,
 ⟨some 141,.call 27 [(.s 138),(.s 139),(.s 140),(.c (.int .i64 2))],none⟩,
 ⟨some 142,.un .not (.s 141),none⟩])
 (.cond (.s 142) (.seq (rg [oJ 8 false])
 (.ret))
 (.skip)))
 (.exit 1))
 (.skip)))
 (.seq (rg [⟨some 144,.idxA 3 2 (.s 10) (.c (.int .i64 0)),none⟩,
 oN 145 3 144,
 ⟨some 146,.idxA 3 2 (.s 10) (.c (.int .i64 1)),none⟩,
 oN 147 3 146,
 oV 148 31 145 147,
 oM 143 148,
 oX 149 143 0,
 oX 150 143 1,
 oS 3 17 149,
 oM 19 150])
 (.seq (.scope (rg [oM 151 19,
 oM 152 151,
 ⟨some 153,.load (some 3) (.s 15),some (152,true)⟩,
 oMg 154 16 152 true,
 ⟨some 155,.load (some 3) (.s 17),some (152,true)⟩,
 ⟨some 156,.call 27 [(.s 153),(.s 154),(.s 155),(.c (.int .i64 0))],some (152,true)⟩,
 ⟨some 157,.un .not (.s 156),some (152,true)⟩,
 ⟨some 158,.pick (.s 152) (.s 157) (.c (.bool false)),none⟩,
 oM 159 158,
 oMg 160 19 159 false,
 ⟨some 161,.un .not (.s 160),some (159,false)⟩,
 oMg 162 161 159 false,
 ⟨some 163,.load (some 3) (.s 15),some (162,true)⟩,
 oMg 164 16 162 true,
 ⟨some 165,.load (some 3) (.s 17),some (162,true)⟩,
 ⟨some 166,.call 27 [(.s 163),(.s 164),(.s 165),(.c (.int .i64 4))],some (162,true)⟩,
 ⟨some 167,.un .not (.s 166),some (162,true)⟩,
 ⟨some 168,.pick (.s 162) (.s 167) (.c (.bool false)),some (159,false)⟩,
 oP 169 159 168]))
 (.cond (.s 169) (.seq (rg [oJ 8 false])
 (.ret))
 (.skip))))))))))))))))
 (rg [oD 170 .add 43 1,
 oM 43 170]))))))))
 (.seq (rg [oJ 8 true])
 (.ret))))
theorem zeT:zgn mC 4=some (171,zdE,[.tmp 8],false):=zaP (by kernel_rfl)
theorem zeZ{N:Nat}{p0:S_api_Factor}{p1:S_api_Factor}{p2:S_haruspexref03_Draft}{p3:S_haruspexref03_Draft}{r:Bool}(h:zbG N p0 p1 p2 p3=some r):Lx.Fn mC 4 [(.agg [(fzE false (eI .i64) p0.vars),(fzE false (eI .i64) p0.cards),(fzE false (eI .i64) p0.w)]),(.agg [(fzE false (eI .i64) p1.vars),(fzE false (eI .i64) p1.cards),(fzE false (eI .i64) p1.w)]),(.agg [(dU8 p2.which),(fzE false (eI .u8) p2.n),(dB p2.large)]),(.agg [(dU8 p3.which),(fzE false (eI .u8) p3.n),(dB p3.large)])] (dB r):=by
 refine Fn.of zeT (zaJ rfl) (qad rfl) ?_;unfold zbG at h;simp only[zdE,zir];refine zab ?_;obtain⟨r1,g2,h⟩:=bind_some h;try simp only[rnA,Nat.reduceEqDiff,Nat.reduceLT,Nat.reduceAdd,reduceCtorEq]
 refine EvL.fn (zk7 g2) rfl rfl .nil ?_;try simp only[rnA,Nat.reduceEqDiff,Nat.reduceLT,reduceCtorEq]
 cases c3:r1
 ·rw[c3,cond_false]at h;try simp only[rnA,Nat.reduceLT]
  replace h:=qab h; subst h;exact zbB.ret rfl (.lit _)
 rw[c3,cond_true]at h;obtain⟨r4,g5,h⟩:=bind_some h;try simp only[rnA,Nat.reduceEqDiff,Nat.reduceLT,Nat.reduceAdd,Nat.reduceLeDiff,reduceCtorEq]
 refine EvL.fnS (zfv g5) rfl rfl (.cons (Mzs.agg (.cons (zad _ _ (fun h=>by cases h<;>contradiction)) (.cons (zad _ _ (fun h=>by cases h<;>contradiction)) (.cons (zad _ _ (fun h=>by cases h<;>contradiction)) .nil)))) .nil) ⟨⟨(zac _ _),(zac _ _),(zac _ _),qcj⟩,qcj⟩ ⟨(zac _ _),(zac _ _),(zac _ _),qcj⟩ ?_;obtain⟨r6,g7,h⟩:=bind_some h;try simp only[rnA,Nat.reduceLT]
 refine EvL.fnS (zfv g7) rfl rfl (.cons (Mzs.agg (.cons (zad _ _ (fun h=>by cases h<;>contradiction)) (.cons (zad _ _ (fun h=>by cases h<;>contradiction)) (.cons (zad _ _ (fun h=>by cases h<;>contradiction)) .nil)))) .nil) ⟨⟨(zac _ _),(zac _ _),(zac _ _),qcj⟩,qcj⟩ ⟨(zac _ _),(zac _ _),(zac _ _),qcj⟩ ?_;obtain⟨r8,g9,h⟩:=bind_some h;try simp only[rnA,Nat.reduceEqDiff,Nat.reduceLT,Nat.reduceAdd,Nat.reduceLeDiff,reduceCtorEq]
 refine EvL.fnS (zfv g9) rfl rfl (.cons (Mzs.agg (.cons (zad _ _ (fun h=>by cases h<;>contradiction)) (.cons (zad _ _ (fun h=>by cases h<;>contradiction)) (.cons (zad _ _ (fun h=>by cases h<;>contradiction)) .nil)))) .nil) ⟨⟨(zac _ _),(zac _ _),(zac _ _),qcj⟩,qcj⟩ ⟨(zac _ _),(zac _ _),(zac _ _),qcj⟩ ?_;obtain⟨r10,g11,h⟩:=bind_some h;try simp only[rnA,Nat.reduceLT]
 refine EvL.fn (zbU g11) rfl rfl (.cons (.zaF (.cons (.lit _) (.cons (zaa _ _ (fun h=>nomatch h)) (.cons (.lit _) .nil)))) .nil) ?_;obtain⟨r12,g13,h⟩:=bind_some h;try simp only[rnA,Nat.reduceEqDiff,Nat.reduceLT,Nat.reduceAdd,Nat.reduceLeDiff,reduceCtorEq]
 refine EvL.fn (zbU g13) rfl rfl (.cons (.zaF (.cons (.lit _) (.cons (zaa _ _ (fun h=>nomatch h)) (.cons (.lit _) .nil)))) .nil) ?_;obtain⟨r14,g15,h⟩:=bind_some h;try simp only[rnA,Nat.reduceLT]
 refine EvL.fnS (zfv g15) rfl rfl (.cons (Mzs.agg (.cons (zad _ _ (fun h=>by cases h<;>contradiction)) (.cons (zad _ _ (fun h=>by cases h<;>contradiction)) (.cons (zad _ _ (fun h=>by cases h<;>contradiction)) .nil)))) .nil) ⟨⟨(zac _ _),(zac _ _),(zac _ _),qcj⟩,qcj⟩ ⟨(zac _ _),(zac _ _),(zac _ _),qcj⟩ ?_;obtain⟨r16,g17,h⟩:=bind_some h;try simp only[rnA,Nat.reduceEqDiff,Nat.reduceLT,Nat.reduceAdd,Nat.reduceLeDiff,reduceCtorEq]
 refine EvL.fn (zbU g17) rfl rfl (.cons (.zaF (.cons (.lit _) (.cons (zaa _ _ (fun h=>nomatch h)) (.cons (.lit _) .nil)))) .nil) ?_;obtain⟨r18,g19,h⟩:=bind_some h;try simp only[rnA,Nat.reduceLT]
 refine EvL.fn (zbU g19) rfl rfl (.cons (.zaF (.cons (.lit _) (.cons (zaa _ _ (fun h=>nomatch h)) (.cons (.lit _) .nil)))) .nil) ?_;try simp only[rnA,Nat.reduceEqDiff,Nat.reduceLT,Nat.reduceAdd,Nat.reduceLeDiff,reduceCtorEq]
 obtain⟨o45,j45,h⟩:=bind_some h;obtain⟨T45,hT45⟩:=mkT fun a:Unit=>⟨171,[],[]⟩
 refine EvL.jn T45 (fun a=>o45=.go a) ?_ ?_
 ·refine zab ?_;simp only[rnA];obtain⟨T79,hT79⟩:=mkT fun a:Int=>⟨171,[(42,(.agg [(fzE false (eI .i64) r4.vars),(fzE false (eI .i64) r4.cards),(fzE false (eI .i64) r4.w),(fzE false (eI .i64) r6.vars),(fzE false (eI .i64) r6.cards),(fzE false (eI .i64) r6.w),(fzE false (eI .i64) r8.vars),(fzE false (eI .i64) r8.cards),(fzE false (eI .i64) r8.w),(fzE false (eI .i64) r10.vars),(fzE false (eI .i64) r10.cards),(fzE false (eI .i64) r10.w),(fzE false (eI .i64) r12.vars),(fzE false (eI .i64) r12.cards),(fzE false (eI .i64) r12.w),(fzE false (eI .i64) r14.vars),(fzE false (eI .i64) r14.cards),(fzE false (eI .i64) r14.w),(fzE false (eI .i64) r16.vars),(fzE false (eI .i64) r16.cards),(fzE false (eI .i64) r16.w),(fzE false (eI .i64) r18.vars),(fzE false (eI .i64) r18.cards),(fzE false (eI .i64) r18.w)])),(43,(dI a))],[]⟩
  refine EvL.rounds (α:=Int) T79 (fun n a=>zau N r4 r6 r8 r10 r12 r14 r16 r18 n a=some o45) (4 - 0+2:Int).toNat 0 (by rw[hT79]; exact zbw.m0 [] rfl (mx rfl (Mo.zaF (.cons (.same trivial) (.cons (.same trivial) (.cons (.same trivial) (.cons (.same trivial) (.cons (.same trivial) (.cons (.same trivial) (.cons (.same trivial) (.cons (.same trivial) (.cons (.same trivial) (.cons (.fr (zad _ _ (fun h=>by cases h<;>contradiction))) (.cons (.fr (zad _ _ (fun h=>by cases h<;>contradiction))) (.cons (.fr (zad _ _ (fun h=>by cases h<;>contradiction))) (.cons (.fr (zad _ _ (fun h=>by cases h<;>contradiction))) (.cons (.fr (zad _ _ (fun h=>by cases h<;>contradiction))) (.cons (.fr (zad _ _ (fun h=>by cases h<;>contradiction))) (.cons (.same trivial) (.cons (.same trivial) (.cons (.same trivial) (.cons (.fr (zad _ _ (fun h=>by cases h<;>contradiction))) (.cons (.fr (zad _ _ (fun h=>by cases h<;>contradiction))) (.cons (.fr (zad _ _ (fun h=>by cases h<;>contradiction))) (.cons (.fr (zad _ _ (fun h=>by cases h<;>contradiction))) (.cons (.fr (zad _ _ (fun h=>by cases h<;>contradiction))) (.cons (.fr (zad _ _ (fun h=>by cases h<;>contradiction))) .nil))))))))))))))))))))))))) (msq trivial)) trivial) j45 (fun _ h=>nomatch (show(none:Option (Out Unit Bool))=some o45 from h)) ?_;rintro n v43 j45;simp only[zau]at j45;rw[congrFun hT79 v43];refine zab ?_;try simp only[rnA,Nat.reduceEqDiff,Nat.reduceLT]
  cases c20:(decide (v43<4))
  ·rw[c20,cond_false]at j45;try simp only[rnA]
   replace j45:=qab j45; subst j45;exact lfj hT45 rfl (wm0 [] (by exact trivial))
  rw[c20,cond_true]at j45;try simp only[rnA]
  obtain⟨o85,j85,j45⟩:=bind_some j45;obtain⟨T85,hT85⟩:=mkT fun a:Unit=>⟨171,[(42,(.agg [(fzE false (eI .i64) r4.vars),(fzE false (eI .i64) r4.cards),(fzE false (eI .i64) r4.w),(fzE false (eI .i64) r6.vars),(fzE false (eI .i64) r6.cards),(fzE false (eI .i64) r6.w),(fzE false (eI .i64) r8.vars),(fzE false (eI .i64) r8.cards),(fzE false (eI .i64) r8.w),(fzE false (eI .i64) r10.vars),(fzE false (eI .i64) r10.cards),(fzE false (eI .i64) r10.w),(fzE false (eI .i64) r12.vars),(fzE false (eI .i64) r12.cards),(fzE false (eI .i64) r12.w),(fzE false (eI .i64) r14.vars),(fzE false (eI .i64) r14.cards),(fzE false (eI .i64) r14.w),(fzE false (eI .i64) r16.vars),(fzE false (eI .i64) r16.cards),(fzE false (eI .i64) r16.w),(fzE false (eI .i64) r18.vars),(fzE false (eI .i64) r18.cards),(fzE false (eI .i64) r18.w)])),(43,(dI v43))],[]⟩
  refine EvL.jn T85 (fun a=>o85=.go a) ?_ ?_
  ·refine zab ?_;obtain⟨x21,g22,j85⟩:=bind_some j85;obtain⟨r23,g24,j85⟩:=bind_some j85;try simp only[rnA,Nat.reduceEqDiff,Nat.reduceLT,Nat.reduceAdd,Nat.reduceLeDiff,Int.reduceLE,Int.reduceLT,zbc g22,(show v43<(4:Int)from zba g22),qbn,(show([(fzE false (eI .i64) r4.vars),(fzE false (eI .i64) r4.cards),(fzE false (eI .i64) r4.w),(fzE false (eI .i64) r6.vars),(fzE false (eI .i64) r6.cards),(fzE false (eI .i64) r6.w),(fzE false (eI .i64) r8.vars),(fzE false (eI .i64) r8.cards),(fzE false (eI .i64) r8.w),(fzE false (eI .i64) r10.vars),(fzE false (eI .i64) r10.cards),(fzE false (eI .i64) r10.w),(fzE false (eI .i64) r12.vars),(fzE false (eI .i64) r12.cards),(fzE false (eI .i64) r12.w),(fzE false (eI .i64) r14.vars),(fzE false (eI .i64) r14.cards),(fzE false (eI .i64) r14.w),(fzE false (eI .i64) r16.vars),(fzE false (eI .i64) r16.cards),(fzE false (eI .i64) r16.w),(fzE false (eI .i64) r18.vars),(fzE false (eI .i64) r18.cards),(fzE false (eI .i64) r18.w)].drop (v43.toNat * 6)).take 6=[(fzE false (eI .i64) x21.a0.vars),(fzE false (eI .i64) x21.a0.cards),(fzE false (eI .i64) x21.a0.w),(fzE false (eI .i64) x21.a1.vars),(fzE false (eI .i64) x21.a1.cards),(fzE false (eI .i64) x21.a1.w)]from zq0 (e:=zeN) (t:=false) rfl g22 rfl),(show v43.toNat * 6+6≤24 from ztF (e:=zeN) rfl g22),Int.reduceToNat,qbj,qbe]
   refine EvL.fn (zg1 g24) rfl rfl (.cons (.zaF (.cons (zaa _ _ (fun h=>nomatch h)) (.cons (zaa _ _ (fun h=>nomatch h)) (.cons (zaa _ _ (fun h=>nomatch h)) .nil)))) .nil) ?_;obtain⟨r25,g26,j85⟩:=bind_some j85;try simp only[rnA,Nat.reduceEqDiff,Nat.reduceLT,Nat.reduceAdd,Nat.reduceLeDiff,Int.reduceLE,Int.reduceLT,Int.reduceToNat,qbj,qbe]
   refine EvL.fn (zcT g26) rfl rfl (.cons (.zaF (.cons (zaa _ _ (fun h=>nomatch h)) (.cons (zaa _ _ (fun h=>nomatch h)) (.cons (zaa _ _ (fun h=>nomatch h)) .nil)))) .nil) ?_;try simp only[rnA,Nat.reduceEqDiff,Nat.reduceLT]
   obtain⟨o86,j86,j85⟩:=bind_some j85;obtain⟨T86,hT86⟩:=mkT fun a:(Bool×Bool)=>⟨171,[(10,(.ptr 0 0)),(11,(dB a.1)),(42,(.agg [(fzE false (eI .i64) r4.vars),(fzE false (eI .i64) r4.cards),(fzE false (eI .i64) r4.w),(fzE false (eI .i64) r6.vars),(fzE false (eI .i64) r6.cards),(fzE false (eI .i64) r6.w),(fzE false (eI .i64) r8.vars),(fzE false (eI .i64) r8.cards),(fzE false (eI .i64) r8.w),(fzE false (eI .i64) r10.vars),(fzE false (eI .i64) r10.cards),(fzE false (eI .i64) r10.w),(fzE false (eI .i64) r12.vars),(fzE false (eI .i64) r12.cards),(fzE false (eI .i64) r12.w),(fzE false (eI .i64) r14.vars),(fzE false (eI .i64) r14.cards),(fzE false (eI .i64) r14.w),(fzE false (eI .i64) r16.vars),(fzE false (eI .i64) r16.cards),(fzE false (eI .i64) r16.w),(fzE false (eI .i64) r18.vars),(fzE false (eI .i64) r18.cards),(fzE false (eI .i64) r18.w)])),(43,(dI v43)),(63,(dB a.2))],[.cells [(fzE false (eI .i64) x21.a0.vars),(fzE false (eI .i64) x21.a0.cards),(fzE false (eI .i64) x21.a0.w),(fzE false (eI .i64) x21.a1.vars),(fzE false (eI .i64) x21.a1.cards),(fzE false (eI .i64) x21.a1.w)]]⟩
   refine EvL.jn T86 (fun a=>a=o86) ?_ ?_
   ·refine zab ?_;try simp only[rnA,Nat.reduceEqDiff,Nat.reduceLT]
    cases c27:r23
    ·rw[c27,cond_false]at j86;try simp only[rnA,Bool.false_beq]
     cases c28:(r25 == 0)
     ·rw[c28,cond_false]at j86;try simp only[rnA,Nat.reduceEqDiff,Nat.reduceLT]
      replace j86:=qab j86; subst j86;exact lfj hT86 rfl (wm0 [.k] ⟨MB.cs ⟨qcj,qcj,qcj,qcj,qcj,qcj,qcj⟩,qcj⟩)
     rw[c28,cond_true]at j86;try simp only[rnA,Nat.reduceEqDiff,Nat.reduceLT]
     replace j86:=qab j86; subst j86;exact lfj hT86 rfl (wm0 [.k] ⟨MB.cs ⟨qcj,qcj,qcj,qcj,qcj,qcj,qcj⟩,qcj⟩)
    rw[c27,cond_true]at j86;try simp only[Bool.true_beq]
    cases c29:(r25 == 0)
    ·rw[c29,cond_false]at j86;try simp only[rnA,Nat.reduceEqDiff,Nat.reduceLT]
     replace j86:=qab j86; subst j86;exact lfj hT86 rfl (wm0 [.k] ⟨MB.cs ⟨qcj,qcj,qcj,qcj,qcj,qcj,qcj⟩,qcj⟩)
    rw[c29,cond_true]at j86;try simp only[rnA,Nat.reduceEqDiff,Nat.reduceLT]
    replace j86:=qab j86; subst j86;exact lfj hT86 rfl (wm0 [.k] ⟨MB.cs ⟨qcj,qcj,qcj,qcj,qcj,qcj,qcj⟩,qcj⟩)
   rintro⟨v11,v63⟩ rfl;dsimp only at j85;rw[congrFun hT86 (v11,v63)];refine zab ?_;try simp only[rnA,Nat.reduceEqDiff]
   cases c30:v63
   ·rw[c30,cond_false]at j85;obtain⟨r31,g32,j85⟩:=bind_some j85;try simp only[rnA,Nat.reduceEqDiff,Nat.reduceLT,Nat.reduceAdd,Nat.reduceLeDiff,Int.reduceLE,Int.reduceLT,Int.reduceToNat,qbj,qbe,qbt]
    refine EvL.fn (zdI g32) rfl rfl (.cons (.zaF (.cons (zaa _ _ (fun h=>nomatch h)) (.cons (zaa _ _ (fun h=>nomatch h)) (.cons (zaa _ _ (fun h=>nomatch h)) .nil)))) (.cons (.zaF (.cons (zaa _ _ (fun h=>nomatch h)) (.cons (zaa _ _ (fun h=>nomatch h)) (.cons (zaa _ _ (fun h=>nomatch h)) .nil)))) .nil)) ?_;obtain⟨r33,g34,j85⟩:=bind_some j85;try simp only[rnA,Nat.reduceEqDiff,Nat.reduceLT,Nat.reduceAdd,Nat.reduceLeDiff,Int.reduceLE,Int.reduceLT,Int.reduceToNat,qbj,qbe,qbt]
    refine EvL.fn (zcz g34) rfl rfl (.cons (.zaF (.cons (zaa _ _ (fun h=>nomatch h)) (.cons (zaa _ _ (fun h=>nomatch h)) (.cons (zaa _ _ (fun h=>nomatch h)) .nil)))) (.cons (.zaF (.cons (zaa _ _ (fun h=>nomatch h)) (.cons (zaa _ _ (fun h=>nomatch h)) (.cons (zaa _ _ (fun h=>nomatch h)) .nil)))) .nil)) ?_;try simp only[rnA,Nat.reduceEqDiff,Nat.reduceLT,Nat.reduceAdd,Nat.reduceLeDiff]
    obtain⟨o87,j87,j85⟩:=bind_some j85;obtain⟨T87,hT87⟩:=mkT fun a:Bool=>⟨171,[(10,(.ptr 0 0)),(13,(.ptr 1 0)),(14,(dI r31.2)),(15,(.ptr 2 0)),(16,(dI r33.2)),(42,(.agg [(fzE false (eI .i64) r4.vars),(fzE false (eI .i64) r4.cards),(fzE false (eI .i64) r4.w),(fzE false (eI .i64) r6.vars),(fzE false (eI .i64) r6.cards),(fzE false (eI .i64) r6.w),(fzE false (eI .i64) r8.vars),(fzE false (eI .i64) r8.cards),(fzE false (eI .i64) r8.w),(fzE false (eI .i64) r10.vars),(fzE false (eI .i64) r10.cards),(fzE false (eI .i64) r10.w),(fzE false (eI .i64) r12.vars),(fzE false (eI .i64) r12.cards),(fzE false (eI .i64) r12.w),(fzE false (eI .i64) r14.vars),(fzE false (eI .i64) r14.cards),(fzE false (eI .i64) r14.w),(fzE false (eI .i64) r16.vars),(fzE false (eI .i64) r16.cards),(fzE false (eI .i64) r16.w),(fzE false (eI .i64) r18.vars),(fzE false (eI .i64) r18.cards),(fzE false (eI .i64) r18.w)])),(43,(dI v43)),(87,(dB a))],[.cells [(fzE false (eI .i64) x21.a0.vars),(fzE false (eI .i64) x21.a0.cards),(fzE false (eI .i64) x21.a0.w),(fzE false (eI .i64) x21.a1.vars),(fzE false (eI .i64) x21.a1.cards),(fzE false (eI .i64) x21.a1.w)],.cells [(fzE true (eI .i64) r31.1.vars),(fzE true (eI .i64) r31.1.cards),(fzE true (eI .i64) r31.1.w)],.cells [(fzE true (eI .i64) r33.1.vars),(fzE true (eI .i64) r33.1.cards),(fzE true (eI .i64) r33.1.w)]]⟩
    refine EvL.jn T87 (fun a=>a=o87) ?_ ?_
    ·refine zab ?_;try simp only[rnA,Nat.reduceEqDiff,Nat.reduceLT]
     cases c35:v11
     ·rw[c35,cond_false]at j87;try simp only[rnA,Nat.reduceEqDiff,Nat.reduceLT]
      refine EvL.skip rfl ?_;try simp only[rnA,Nat.reduceEqDiff,Nat.reduceLT]
      replace j87:=qab j87; subst j87;exact lfj hT87 rfl (wm0 [.k,.k,.k] ⟨MB.cs ⟨qcj,qcj,qcj,qcj,qcj,qcj,qcj⟩,⟨MB.cs ⟨qcj,qcj,qcj,qcj⟩,⟨MB.cs ⟨qcj,qcj,qcj,qcj⟩,qcj⟩⟩⟩)
     rw[c35,cond_true]at j87;obtain⟨r36,g37,j87⟩:=bind_some j87;try simp only[rnA,Nat.reduceEqDiff,Nat.reduceLT,Nat.reduceAdd,Nat.reduceLeDiff,Int.reduceLE,Int.reduceLT,Int.reduceToNat,qbj,qbt]
     refine EvL.fn (zg1 g37) rfl rfl (.cons (.zaF (.cons (zaa _ _ (fun h=>nomatch h)) (.cons (zaa _ _ (fun h=>nomatch h)) (.cons (zaa _ _ (fun h=>nomatch h)) .nil)))) .nil) ?_;try simp only[rnA,Nat.reduceEqDiff,Nat.reduceLT]
     replace j87:=qab j87; subst j87;exact lfj hT87 rfl (wm0 [.k,.k,.k] ⟨MB.cs ⟨qcj,qcj,qcj,qcj,qcj,qcj,qcj⟩,⟨MB.cs ⟨qcj,qcj,qcj,qcj⟩,⟨MB.cs ⟨qcj,qcj,qcj,qcj⟩,qcj⟩⟩⟩)
    rintro v87 rfl;rw[congrFun hT87 v87];refine zab ?_;try simp only[rnA,Nat.reduceEqDiff]
    cases c38:v87
    ·rw[c38,cond_false]at j85;obtain⟨r39,g40,j85⟩:=bind_some j85;try simp only[rnA,Nat.reduceEqDiff,Nat.reduceLT,Nat.reduceAdd,Nat.reduceLeDiff,Int.reduceLE,Int.reduceLT,Int.reduceToNat,qbj,qbe,qbt]
     refine EvL.fn (zlc g40) rfl rfl (.cons (.zaF (.cons (zaa _ _ (fun h=>nomatch h)) (.cons (zaa _ _ (fun h=>nomatch h)) (.cons (zaa _ _ (fun h=>nomatch h)) .nil)))) (.cons (.zaF (.cons (zaa _ _ (fun h=>nomatch h)) (.cons (zaa _ _ (fun h=>nomatch h)) (.cons (zaa _ _ (fun h=>nomatch h)) .nil)))) .nil)) ?_;try simp only[rnA,Nat.reduceEqDiff,Nat.reduceLT]
     cases c41:r39
     ·rw[c41,cond_false]at j85;try simp only[rnA]
      obtain⟨o88,j88,j85⟩:=bind_some j85;obtain⟨T88,hT88⟩:=mkT fun a:Bool=>⟨171,[(42,(.agg [(fzE false (eI .i64) r4.vars),(fzE false (eI .i64) r4.cards),(fzE false (eI .i64) r4.w),(fzE false (eI .i64) r6.vars),(fzE false (eI .i64) r6.cards),(fzE false (eI .i64) r6.w),(fzE false (eI .i64) r8.vars),(fzE false (eI .i64) r8.cards),(fzE false (eI .i64) r8.w),(fzE false (eI .i64) r10.vars),(fzE false (eI .i64) r10.cards),(fzE false (eI .i64) r10.w),(fzE false (eI .i64) r12.vars),(fzE false (eI .i64) r12.cards),(fzE false (eI .i64) r12.w),(fzE false (eI .i64) r14.vars),(fzE false (eI .i64) r14.cards),(fzE false (eI .i64) r14.w),(fzE false (eI .i64) r16.vars),(fzE false (eI .i64) r16.cards),(fzE false (eI .i64) r16.w),(fzE false (eI .i64) r18.vars),(fzE false (eI .i64) r18.cards),(fzE false (eI .i64) r18.w)])),(43,(dI v43)),(117,(dB a))],[]⟩
      refine EvL.jn T88 (fun a=>a=o88) ?_ ?_
      ·refine zab ?_;obtain⟨r42,g43,j88⟩:=bind_some j88;try simp only[rnA,Nat.reduceEqDiff,Nat.reduceLT,Nat.reduceAdd,Nat.reduceLeDiff]
       refine EvL.fn (zcl g43) rfl rfl (.cons (.zaF (.cons (zaa _ _ (fun h=>nomatch h)) (.cons (zaa _ _ (fun h=>nomatch h)) (.cons (zaa _ _ (fun h=>nomatch h)) .nil)))) (.cons (.lit _) (.cons (.zaF (.cons (zaa _ _ (fun h=>nomatch h)) (.cons (zaa _ _ (fun h=>nomatch h)) (.cons (zaa _ _ (fun h=>nomatch h)) .nil)))) (.cons (.lit _) .nil)))) ?_;try simp only[rnA,Nat.reduceEqDiff,Nat.reduceLT]
       cases c44:r42
       ·rw[c44,cond_false]at j88;try simp only[rnA,Nat.reduceEqDiff,Nat.reduceLT]
        refine EvL.skip rfl ?_;try simp only[rnA,Nat.reduceEqDiff,Nat.reduceLT]
        replace j88:=qab j88; subst j88;exact lfj hT88 rfl (wm0 [] (by exact trivial))
       rw[c44,cond_true]at j88;obtain⟨r45,g46,j88⟩:=bind_some j88;try simp only[rnA,Nat.reduceEqDiff,Nat.reduceLT,Nat.reduceAdd,Nat.reduceLeDiff]
       refine EvL.fn (zcl g46) rfl rfl (.cons (.zaF (.cons (zaa _ _ (fun h=>nomatch h)) (.cons (zaa _ _ (fun h=>nomatch h)) (.cons (zaa _ _ (fun h=>nomatch h)) .nil)))) (.cons (.lit _) (.cons (.zaF (.cons (zaa _ _ (fun h=>nomatch h)) (.cons (zaa _ _ (fun h=>nomatch h)) (.cons (zaa _ _ (fun h=>nomatch h)) .nil)))) (.cons (.lit _) .nil)))) ?_;try simp only[rnA,Nat.reduceEqDiff,Nat.reduceLT]
       replace j88:=qab j88; subst j88;exact lfj hT88 rfl (wm0 [] (by exact trivial))
      rintro v117 rfl;rw[congrFun hT88 v117];refine zab ?_;try simp only[rnA,Nat.reduceEqDiff]
      cases c47:v117
      ·rw[c47,cond_false]at j85;try simp only[rnA,reduceCtorEq]
       replace j85:=qab j85; subst j85;exact lfj hT85 rfl (wm0 [] (by exact trivial))
      rw[c47,cond_true]at j85;try simp only[rnA,Nat.reduceLT]
      replace j85:=qab j85; subst j85;dsimp only at j45;replace j45:=qab j45; subst j45;dsimp only at h;replace h:=qab h; subst h;exact zbB.ret rfl (.lit _)
     rw[c41,cond_true]at j85;obtain⟨r48,g49,j85⟩:=bind_some j85;try simp only[rnA,Nat.reduceEqDiff,Nat.reduceLT,Nat.reduceAdd,Nat.reduceLeDiff,Int.reduceLE,Int.reduceLT,Int.reduceToNat,qbj,qbe,qbt]
     refine EvL.fn (znQ g49) rfl rfl (.cons (.zaF (.cons (zaa _ _ (fun h=>nomatch h)) (.cons (zaa _ _ (fun h=>nomatch h)) (.cons (zaa _ _ (fun h=>nomatch h)) .nil)))) (.cons (.zaF (.cons (zaa _ _ (fun h=>nomatch h)) (.cons (zaa _ _ (fun h=>nomatch h)) (.cons (zaa _ _ (fun h=>nomatch h)) .nil)))) .nil)) ?_;obtain⟨r50,g51,j85⟩:=bind_some j85;try simp only[rnA,Nat.reduceEqDiff,Nat.reduceLT,Nat.reduceAdd,Nat.reduceLeDiff]
     refine EvL.fn (zcl g51) rfl rfl (.cons (.zaF (.cons (zaa _ _ (fun h=>nomatch h)) (.cons (zaa _ _ (fun h=>nomatch h)) (.cons (zaa _ _ (fun h=>nomatch h)) .nil)))) (.cons (.lit _) (.cons (.zaF (.cons (zaa _ _ (fun h=>nomatch h)) (.cons (zaa _ _ (fun h=>nomatch h)) (.cons (zaa _ _ (fun h=>nomatch h)) .nil)))) (.cons (.lit _) .nil)))) ?_;try simp only[rnA,Nat.reduceEqDiff,Nat.reduceLT]
     cases c52:r50
     ·rw[c52,cond_false]at j85;try simp only[rnA,Nat.reduceLT]
      replace j85:=qab j85; subst j85;dsimp only at j45;replace j45:=qab j45; subst j45;dsimp only at h;replace h:=qab h; subst h;exact zbB.ret rfl (.lit _)
     rw[c52,cond_true]at j85;obtain⟨r53,g54,j85⟩:=bind_some j85;try simp only[rnA,Nat.reduceEqDiff,Nat.reduceLT,Nat.reduceAdd,Nat.reduceLeDiff,Int.reduceLE,Int.reduceLT,Int.reduceToNat,qbj,qbe,qbt]
     refine EvL.fn (znA g54) rfl rfl (.cons (.zaF (.cons (zaa _ _ (fun h=>nomatch h)) (.cons (zaa _ _ (fun h=>nomatch h)) (.cons (zaa _ _ (fun h=>nomatch h)) .nil)))) (.cons (.zaF (.cons (zaa _ _ (fun h=>nomatch h)) (.cons (zaa _ _ (fun h=>nomatch h)) (.cons (zaa _ _ (fun h=>nomatch h)) .nil)))) .nil)) ?_;try simp only[rnA,Nat.reduceEqDiff,Nat.reduceLT]
     cases c55:r53
     ·rw[c55,cond_false]at j85;obtain⟨r56,g57,j85⟩:=bind_some j85;try simp only[rnA,Nat.reduceEqDiff,Nat.reduceLT,Nat.reduceAdd,Nat.reduceLeDiff]
      refine EvL.fn (zcl g57) rfl rfl (.cons (.zaF (.cons (zaa _ _ (fun h=>nomatch h)) (.cons (zaa _ _ (fun h=>nomatch h)) (.cons (zaa _ _ (fun h=>nomatch h)) .nil)))) (.cons (.lit _) (.cons (.zaF (.cons (zaa _ _ (fun h=>nomatch h)) (.cons (zaa _ _ (fun h=>nomatch h)) (.cons (zaa _ _ (fun h=>nomatch h)) .nil)))) (.cons (.lit _) .nil)))) ?_;try simp only[rnA,Nat.reduceEqDiff,Nat.reduceLT]
      cases c58:r56
      ·rw[c58,cond_false]at j85;try simp only[rnA,Nat.reduceLT]
       replace j85:=qab j85; subst j85;dsimp only at j45;replace j45:=qab j45; subst j45;dsimp only at h;replace h:=qab h; subst h;exact zbB.ret rfl (.lit _)
      rw[c58,cond_true]at j85;try simp only[rnA,reduceCtorEq]
      replace j85:=qab j85; subst j85;exact lfj hT85 rfl (wm0 [] (by exact trivial))
     rw[c55,cond_true]at j85;obtain⟨r59,g60,j85⟩:=bind_some j85;try simp only[rnA,Nat.reduceEqDiff,Nat.reduceLT,Nat.reduceAdd,Nat.reduceLeDiff,Int.reduceLE,Int.reduceLT,Int.reduceToNat,qbj,qbe,qbt]
     refine EvL.fnS (zjj g60) rfl rfl (.cons (Mzs.agg (.cons (zad _ _ (fun h=>by cases h<;>contradiction)) (.cons (zad _ _ (fun h=>by cases h<;>contradiction)) (.cons (zad _ _ (fun h=>by cases h<;>contradiction)) .nil)))) (.cons (Mzs.agg (.cons (zad _ _ (fun h=>by cases h<;>contradiction)) (.cons (zad _ _ (fun h=>by cases h<;>contradiction)) (.cons (zad _ _ (fun h=>by cases h<;>contradiction)) .nil)))) .nil)) ⟨⟨(zac _ _),(zac _ _),(zac _ _),qcj⟩,⟨(zac _ _),(zac _ _),(zac _ _),qcj⟩,qcj⟩ ⟨⟨(zac _ _),(zac _ _),(zac _ _),qcj⟩,qcj,qcj⟩ ?_;try simp only[rnA,Nat.reduceEqDiff,Nat.reduceLT,Nat.reduceAdd,Nat.reduceLeDiff]
     obtain⟨o89,j89,j85⟩:=bind_some j85;obtain⟨T89,hT89⟩:=mkT fun a:Bool=>⟨171,[(42,(.agg [(fzE false (eI .i64) r4.vars),(fzE false (eI .i64) r4.cards),(fzE false (eI .i64) r4.w),(fzE false (eI .i64) r6.vars),(fzE false (eI .i64) r6.cards),(fzE false (eI .i64) r6.w),(fzE false (eI .i64) r8.vars),(fzE false (eI .i64) r8.cards),(fzE false (eI .i64) r8.w),(fzE false (eI .i64) r10.vars),(fzE false (eI .i64) r10.cards),(fzE false (eI .i64) r10.w),(fzE false (eI .i64) r12.vars),(fzE false (eI .i64) r12.cards),(fzE false (eI .i64) r12.w),(fzE false (eI .i64) r14.vars),(fzE false (eI .i64) r14.cards),(fzE false (eI .i64) r14.w),(fzE false (eI .i64) r16.vars),(fzE false (eI .i64) r16.cards),(fzE false (eI .i64) r16.w),(fzE false (eI .i64) r18.vars),(fzE false (eI .i64) r18.cards),(fzE false (eI .i64) r18.w)])),(43,(dI v43)),(169,(dB a))],[]⟩
     refine EvL.jn T89 (fun a=>a=o89) ?_ ?_
     ·refine zab ?_;try simp only[rnA,Nat.reduceEqDiff,Nat.reduceLT]
      cases c61:r59.2
      ·rw[c61,cond_false]at j89;try simp only[rnA,Nat.reduceEqDiff,Nat.reduceLT]
       refine EvL.skip rfl ?_;obtain⟨r62,g63,j89⟩:=bind_some j89;try simp only[rnA,Nat.reduceEqDiff,Nat.reduceLT,Nat.reduceAdd,Nat.reduceLeDiff]
       refine EvL.fn (zcl g63) rfl rfl (.cons (.zaF (.cons (zaa _ _ (fun h=>nomatch h)) (.cons (zaa _ _ (fun h=>nomatch h)) (.cons (zaa _ _ (fun h=>nomatch h)) .nil)))) (.cons (.lit _) (.cons (.zaF (.cons (zaa _ _ (fun h=>nomatch h)) (.cons (zaa _ _ (fun h=>nomatch h)) (.cons (zaa _ _ (fun h=>nomatch h)) .nil)))) (.cons (.lit _) .nil)))) ?_;try simp only[rnA,Nat.reduceEqDiff,Nat.reduceLT]
       replace j89:=qab j89; subst j89;exact lfj hT89 rfl (wm0 [] (by exact trivial))
      rw[c61,cond_true]at j89;obtain⟨r64,g65,j89⟩:=bind_some j89;try simp only[rnA,Nat.reduceEqDiff,Nat.reduceLT,Nat.reduceAdd,Nat.reduceLeDiff]
      refine EvL.fn (zcl g65) rfl rfl (.cons (.zaF (.cons (zaa _ _ (fun h=>nomatch h)) (.cons (zaa _ _ (fun h=>nomatch h)) (.cons (zaa _ _ (fun h=>nomatch h)) .nil)))) (.cons (.lit _) (.cons (.zaF (.cons (zaa _ _ (fun h=>nomatch h)) (.cons (zaa _ _ (fun h=>nomatch h)) (.cons (zaa _ _ (fun h=>nomatch h)) .nil)))) (.cons (.lit _) .nil)))) ?_;try simp only[rnA,Nat.reduceEqDiff,Nat.reduceLT]
      cases c66:r64
      ·rw[c66,cond_false]at j89;try simp only[rnA,Nat.reduceEqDiff,Nat.reduceLT]
       refine EvL.skip rfl ?_;try simp only[rnA,Nat.reduceEqDiff,Nat.reduceLT]
       replace j89:=qab j89; subst j89;exact lfj hT89 rfl (wm0 [] (by exact trivial))
      rw[c66,cond_true]at j89;try simp only[rnA,Nat.reduceEqDiff,Nat.reduceLT]
      refine EvL.skip rfl ?_;try simp only[rnA,Nat.reduceEqDiff,Nat.reduceLT]
      replace j89:=qab j89; subst j89;exact lfj hT89 rfl (wm0 [] (by exact trivial))
     rintro v169 rfl;rw[congrFun hT89 v169];refine zab ?_;try simp only[rnA,Nat.reduceEqDiff]
     cases c67:v169
     ·rw[c67,cond_false]at j85;try simp only[rnA]
      replace j85:=qab j85; subst j85;exact lfj hT85 rfl (wm0 [] (by exact trivial))
     rw[c67,cond_true]at j85;try simp only[rnA,Nat.reduceLT]
     replace j85:=qab j85; subst j85;dsimp only at j45;replace j45:=qab j45; subst j45;dsimp only at h;replace h:=qab h; subst h;exact zbB.ret rfl (.lit _)
    rw[c38,cond_true]at j85;try simp only[rnA]
    obtain⟨o90,j90,j85⟩:=bind_some j85;obtain⟨T90,hT90⟩:=mkT fun a:Bool=>⟨171,[(42,(.agg [(fzE false (eI .i64) r4.vars),(fzE false (eI .i64) r4.cards),(fzE false (eI .i64) r4.w),(fzE false (eI .i64) r6.vars),(fzE false (eI .i64) r6.cards),(fzE false (eI .i64) r6.w),(fzE false (eI .i64) r8.vars),(fzE false (eI .i64) r8.cards),(fzE false (eI .i64) r8.w),(fzE false (eI .i64) r10.vars),(fzE false (eI .i64) r10.cards),(fzE false (eI .i64) r10.w),(fzE false (eI .i64) r12.vars),(fzE false (eI .i64) r12.cards),(fzE false (eI .i64) r12.w),(fzE false (eI .i64) r14.vars),(fzE false (eI .i64) r14.cards),(fzE false (eI .i64) r14.w),(fzE false (eI .i64) r16.vars),(fzE false (eI .i64) r16.cards),(fzE false (eI .i64) r16.w),(fzE false (eI .i64) r18.vars),(fzE false (eI .i64) r18.cards),(fzE false (eI .i64) r18.w)])),(43,(dI v43)),(99,(dB a))],[]⟩
    refine EvL.jn T90 (fun a=>a=o90) ?_ ?_
    ·refine zab ?_;obtain⟨r68,g69,j90⟩:=bind_some j90;try simp only[rnA,Nat.reduceEqDiff,Nat.reduceLT,Nat.reduceAdd,Nat.reduceLeDiff]
     refine EvL.fn (zcl g69) rfl rfl (.cons (.zaF (.cons (zaa _ _ (fun h=>nomatch h)) (.cons (zaa _ _ (fun h=>nomatch h)) (.cons (zaa _ _ (fun h=>nomatch h)) .nil)))) (.cons (.lit _) (.cons (.zaF (.cons (zaa _ _ (fun h=>nomatch h)) (.cons (zaa _ _ (fun h=>nomatch h)) (.cons (zaa _ _ (fun h=>nomatch h)) .nil)))) (.cons (.lit _) .nil)))) ?_;try simp only[rnA,Nat.reduceEqDiff,Nat.reduceLT]
     cases c70:r68
     ·rw[c70,cond_false]at j90;try simp only[rnA,Nat.reduceEqDiff,Nat.reduceLT]
      refine EvL.skip rfl ?_;try simp only[rnA,Nat.reduceEqDiff,Nat.reduceLT]
      replace j90:=qab j90; subst j90;exact lfj hT90 rfl (wm0 [] (by exact trivial))
     rw[c70,cond_true]at j90;obtain⟨r71,g72,j90⟩:=bind_some j90;try simp only[rnA,Nat.reduceEqDiff,Nat.reduceLT,Nat.reduceAdd,Nat.reduceLeDiff]
     refine EvL.fn (zcl g72) rfl rfl (.cons (.zaF (.cons (zaa _ _ (fun h=>nomatch h)) (.cons (zaa _ _ (fun h=>nomatch h)) (.cons (zaa _ _ (fun h=>nomatch h)) .nil)))) (.cons (.lit _) (.cons (.zaF (.cons (zaa _ _ (fun h=>nomatch h)) (.cons (zaa _ _ (fun h=>nomatch h)) (.cons (zaa _ _ (fun h=>nomatch h)) .nil)))) (.cons (.lit _) .nil)))) ?_;try simp only[rnA,Nat.reduceEqDiff,Nat.reduceLT]
     replace j90:=qab j90; subst j90;exact lfj hT90 rfl (wm0 [] (by exact trivial))
    rintro v99 rfl;rw[congrFun hT90 v99];refine zab ?_;try simp only[rnA,Nat.reduceEqDiff]
    cases c73:v99
    ·rw[c73,cond_false]at j85;try simp only[rnA,reduceCtorEq]
     replace j85:=qab j85; subst j85;exact lfj hT85 rfl (wm0 [] (by exact trivial))
    rw[c73,cond_true]at j85;try simp only[rnA,Nat.reduceLT]
    replace j85:=qab j85; subst j85;dsimp only at j45;replace j45:=qab j45; subst j45;dsimp only at h;replace h:=qab h; subst h;exact zbB.ret rfl (.lit _)
   rw[c30,cond_true]at j85;try simp only[rnA,Nat.reduceLT]
   replace j85:=qab j85; subst j85;dsimp only at j45;replace j45:=qab j45; subst j45;dsimp only at h;replace h:=qab h; subst h;exact zbB.ret rfl (.lit _)
  rintro⟨⟩ rfl;dsimp only at j45;rw[congrFun hT85 ()];refine zab ?_;try simp only[rnA,Nat.reduceEqDiff,Nat.reduceLT]
  exact⟨(w64 (v43+1)),j45,by rw[hT79]; exact wm0 [] (by exact trivial)⟩
 rintro⟨⟩ rfl;dsimp only at h;rw[congrFun hT45 ()];refine zab ?_;try simp only[rnA,Nat.reduceLT]
 replace h:=qab h; subst h;exact zbB.ret rfl (.lit _)
end Go.Dc
