/-
 What l03_FactorPulls computes. Conditions: none.
-/
import Derived.Test.YtnfgibomhkbcpaaFwJ4
set_option linter.unusedSimpArgs false
set_option linter.unusedVariables false
set_option maxRecDepth 100000
set_option maxHeartbeats 4000000
namespace Go.Dc
open Go Go.Mx Go.Lx Go.Proofs
def zcc(N:Nat)(p0:S_haruspexref03_Draft)(p1:Int):Option Bool:=
(zcZ).bind fun r1=>
bif r1 then(
(zaV N (S_haruspexref03_Draft.mk p0.which p0.n false)).bind fun r4=>
bif (decide ((r4.vars.length:Int)<2))then(
some true)
else(
(zo9 (w64 p1) (w64 ((r4.vars.length:Int) - 1))).bind fun q7=>
(zbl r4.vars q7).bind fun x9=>
(zbl r4.vars (w64 (q7+1))).bind fun x11=>
(zaI r4 x9).bind fun r13=>
(zaI r4 x11).bind fun r15=>
(zaI r13.1 x11).bind fun r17=>
(zaO r4 x9).bind fun r19=>
(zaO r4 x11).bind fun r21=>
(zaO r19.1 x11).bind fun r23=>
(za4 r4).bind fun r25=>
(za4 r17.1).bind fun r27=>
((bif (r13.2 == 0)then(
bif (r15.2 == 0)then(
bif (r17.2 == 0)then(
bif (r19.2 == 0)then(
bif (r21.2 == 0)then(
bif (r23.2 == 0)then(
bif (r25.2 == 0)then(
bif (r27.2 == 0)then(
some (!(r25.1 == r27.1)))
else(
some true))
else(
some true))
else(
some true))
else(
some true))
else(
some true))
else(
some true))
else(
some true))
else(
some true):Option Bool)).bind fun v132=>
bif v132 then(
some false)
else(
(((zb0 r17.1).bind fun r38=>
(zaI r15.1 x9).bind fun r40=>
(zaX r40.1 r40.2 r38).bind fun r42=>
bif r42 then(
(zb0 r23.1).bind fun r45=>
(zaO r21.1 x9).bind fun r47=>
(zaX r47.1 r47.2 r45).bind fun r49=>
bif r49 then(
(zb0 r17.1).bind fun r52=>
(zaM r4 r17.1.vars).bind fun r54=>
(zaX r54.1 r54.2 r52).bind fun r56=>
bif r56 then(
(zb0 r4).bind fun r59=>
(zaM r4 r4.vars).bind fun r61=>
(zaX r61.1 r61.2 r59).bind fun r63=>
some r63)
else(
some false))
else(
some false))
else(
some false):Option Bool)).bind fun v4=>
some v4)))
else(
some false)
def zdP:C:=
 .seq (rg [oW 2 0,
 oJ 4 false])
 (.seq (.seq (rg [⟨some 25,.call 20 [],none⟩,
 ⟨some 26,.un .not (.s 25),none⟩])
 (.cond (.s 26) (.seq (rg [oJ 4 false])
 (.ret))
 (.skip)))
 (.seq (rg [oF 27 2 2,
 ⟨none,.store 1 (.s 27) (.c (.bool false)),none⟩])
 (.seq (rg [oN 28 3 2,
 oU 29 22 28,
 ⟨some 5,.alloc [(.slice none 0 0),(.slice none 0 0),(.slice none 0 0)],none⟩,
 oS 3 5 29])
 (.seq (.seq (rg [oF 30 0 5,
 oL 31 30,
 oE 32 31,
 oD 33 .lss 32 2])
 (.cond (.s 33) (.seq (rg [oJ 4 true])
 (.ret))
 (.skip)))
 (.seq (rg [oM 34 1,
 ⟨some 35,.conv .i64 (.s 34),none⟩,
 oF 36 0 5,
 oL 37 36,
 oE 38 37,
 oD 39 .sub 38 1,
 oB 40 .rem 35 39,
 oM 6 40])
 (.seq (.reg true false [oF 41 0 5,
 oL 42 41,
 oM 43 6,
 oI 44 1 42 43,
 oL 45 44,
 oF 46 0 5,
 oL 47 46,
 oM 48 6,
 oD 49 .add 48 1,
 oI 50 1 47 49,
 oL 51 50,
 oM 7 45,
 oM 8 51])
 (.seq (rg [oN 53 3 5,
 oM 54 7,
 oV 55 32 53 54,
 oM 52 55,
 oX 56 52 0,
 oX 57 52 1,
 ⟨some 9,.alloc [(.slice none 0 0),(.slice none 0 0),(.slice none 0 0)],none⟩,
 oS 3 9 56,
 oM 10 57])
 (.seq (rg [oN 59 3 5,
 oM 60 8,
 oV 61 32 59 60,
 oM 58 61,
 oX 62 58 0,
 oX 63 58 1,
 ⟨some 11,.alloc [(.slice none 0 0),(.slice none 0 0),(.slice none 0 0)],none⟩,
 oS 3 11 62,
 oM 12 63])
 (.seq (rg [oN 65 3 9,
 oM 66 8,
 oV 67 32 65 66,
 oM 64 67,
 oX 68 64 0,
 oX 69 64 1,
 ⟨some 13,.alloc [(.slice none 0 0),(.slice none 0 0),(.slice none 0 0)],none⟩,
 oS 3 13 68,
 oM 14 69])
 (.seq (rg [oN 71 3 5,
 oM 72 7,
 oV 73 33 71 72,
 oM 70 73,
 oX 74 70 0,
 oX 75 70 1,
 ⟨some 15,.alloc [(.slice none 0 0),(.slice none 0 0),(.slice none 0 0)],none⟩,
 oS 3 15 74,
 oM 16 75])
 (.seq (rg [oN 77 3 5,
 oM 78 8,
 oV 79 33 77 78,
 oM 76 79,
 oX 80 76 0,
 oX 81 76 1,
 ⟨some 17,.alloc [(.slice none 0 0),(.slice none 0 0),(.slice none 0 0)],none⟩,
 oS 3 17 80,
 oM 18 81])
 (.seq (rg [oN 83 3 15,
 oM 84 8,
 oV 85 33 83 84,
 oM 82 85,
 oX 86 82 0,
 oX 87 82 1,
 ⟨some 19,.alloc [(.slice none 0 0),(.slice none 0 0),(.slice none 0 0)],none⟩,
 oS 3 19 86,
 oM 20 87])
 (.seq (rg [oN 89 3 5,
 oU 90 40 89,
 oM 88 90,
 oX 91 88 0,
 oX 92 88 1,
 oM 21 91,
 oM 22 92])
 (.seq (rg [oN 94 3 13,
 oU 95 40 94,
 oM 93 95,
 oX 96 93 0,
 oX 97 93 1,
 oM 23 96,
 oM 24 97])
 (.seq (.seq (.scope (rg [oM 98 10,
 oD 99 .neq 98 0,
 oM 100 99,
 oMg 101 12 100 false,
 oDg 102 .neq 101 0 100 false,
 oP 103 100 102,
 oM 104 103,
 oMg 105 14 104 false,
 oDg 106 .neq 105 0 104 false,
 oP 107 104 106,
 oM 108 107,
 oMg 109 16 108 false,
 oDg 110 .neq 109 0 108 false,
 oP 111 108 110,
 oM 112 111,
 oMg 113 18 112 false,
 oDg 114 .neq 113 0 112 false,
 oP 115 112 114,
 oM 116 115,
 oMg 117 20 116 false,
 oDg 118 .neq 117 0 116 false,
 oP 119 116 118,
 oM 120 119,
 oMg 121 22 120 false,
 oDg 122 .neq 121 0 120 false,
 oP 123 120 122,
 oM 124 123,
 oMg 125 24 124 false,
 oDg 126 .neq 125 0 124 false,
 oP 127 124 126,
 oM 128 127,
 oMg 129 21 128 false,
 oMg 130 23 128 false,
 ⟨some 131,.bin .neq (.s 129) (.s 130),some (128,false)⟩,
 oP 132 128 131]))
 (.cond (.s 132) (.seq (rg [oJ 4 false])
 (.ret))
 (.skip)))
 (.seq (.scope (.reg true true [oN 133 3 13,
 oN 135 3 11,
 oM 136 7,
 oU 134 44 133,
 oV 137 32 135 136,
 oX 138 137 0,
 oX 139 137 1,
 ⟨some 140,.zbD (.s 134) [(.s 138),(.s 139)],none⟩,
 oM 141 140,
 ⟨some 142,.load (some 3) (.s 19),some (141,true)⟩,
 ⟨some 144,.load (some 3) (.s 17),some (141,true)⟩,
 oMg 145 7 141 true,
 ⟨some 143,.call 44 [(.s 142)],some (141,true)⟩,
 ⟨some 146,.call 33 [(.s 144),(.s 145)],some (141,true)⟩,
 ⟨some 147,.ext (.s 146) 0,some (141,true)⟩,
 ⟨some 148,.ext (.s 146) 1,some (141,true)⟩,
 ⟨some 149,.zbD (.s 143) [(.s 147),(.s 148)],some (141,true)⟩,
 ⟨some 150,.pick (.s 141) (.s 149) (.c (.bool false)),none⟩,
 oM 151 150,
 ⟨some 152,.load (some 3) (.s 13),some (151,true)⟩,
 ⟨some 154,.load (some 3) (.s 5),some (151,true)⟩,
 oFg 155 0 13 151 true,
 oLg 156 155 151 true,
 ⟨some 153,.call 44 [(.s 152)],some (151,true)⟩,
 ⟨some 157,.call 42 [(.s 154),(.s 156)],some (151,true)⟩,
 ⟨some 158,.ext (.s 157) 0,some (151,true)⟩,
 ⟨some 159,.ext (.s 157) 1,some (151,true)⟩,
 ⟨some 160,.zbD (.s 153) [(.s 158),(.s 159)],some (151,true)⟩,
 ⟨some 161,.pick (.s 151) (.s 160) (.c (.bool false)),none⟩,
 oM 162 161,
 ⟨some 163,.load (some 3) (.s 5),some (162,true)⟩,
 ⟨some 165,.load (some 3) (.s 5),some (162,true)⟩,
 oFg 166 0 5 162 true,
 oLg 167 166 162 true,
 ⟨some 164,.call 44 [(.s 163)],some (162,true)⟩,
 ⟨some 168,.call 42 [(.s 165),(.s 167)],some (162,true)⟩,
 ⟨some 169,.ext (.s 168) 0,some (162,true)⟩,
 ⟨some 170,.ext (.s 168) 1,some (162,true)⟩,
 ⟨some 171,.zbD (.s 164) [(.s 169),(.s 170)],some (162,true)⟩,
 ⟨some 172,.pick (.s 162) (.s 171) (.c (.bool false)),none⟩,
 oM 4 172]))
 (.ret)))))))))))))))))
theorem ze5:zgD mC 8=some (173,zdP,[.tmp 4],false):=za6 (by kernel_rfl)
theorem zfR{N:Nat}{p0:S_haruspexref03_Draft}{p1:Int}{r:Bool}(h:zcc N p0 p1=some r):Lx.Fn mC 8 [(.agg [(dU8 p0.which),(fzE false (eI .u8) p0.n),(dB p0.large)]),(dU8 p1)] (dB r):=by
 refine Fn.of ze5 (za1 rfl) (qac rfl) ?_;unfold zcc at h;simp only[zdP,zkG];refine zac ?_;obtain⟨r1,g2,h⟩:=bind_some h;try simp only[rnA,Nat.reduceLT,Nat.reduceAdd,reduceCtorEq]
 refine EvL.fn (zks g2) rfl rfl .nil ?_;try simp only[rnA,Nat.reduceEqDiff,Nat.reduceLT,reduceCtorEq]
 cases c3:r1
 ·rw[c3,cond_false]at h;try simp only[rnA,Nat.reduceLT]
  replace h:=qab h; subst h;exact zcE.ret rfl (.lit _)
 rw[c3,cond_true]at h;obtain⟨r4,g5,h⟩:=bind_some h;try simp only[rnA,Nat.reduceEqDiff,Nat.reduceLT,Nat.reduceAdd,Nat.reduceLeDiff,reduceCtorEq]
 refine EvL.fn (zfa g5) rfl rfl (.cons (.za8 (.cons (.lit _) (.cons (zab _ _ (fun h=>nomatch h)) (.cons (.lit _) .nil)))) .nil) ?_;try simp only[rnA,Nat.reduceEqDiff,Nat.reduceLT,Nat.reduceAdd,Nat.reduceLeDiff,reduceCtorEq,zaW]
 cases c6:(decide ((r4.vars.length:Int)<2))
 ·rw[c6,cond_false]at h;obtain⟨q7,g8,h⟩:=bind_some h;obtain⟨x9,g10,h⟩:=bind_some h;obtain⟨x11,g12,h⟩:=bind_some h;obtain⟨r13,g14,h⟩:=bind_some h;try simp only[rnA,Nat.reduceEqDiff,Nat.reduceLT,Nat.reduceAdd,Nat.reduceLeDiff,reduceCtorEq,zaW,ziE g8,zk6 g8,zaw (n:=1) (e:=(eI .i64)) rfl g10,zaw (n:=1) (e:=(eI .i64)) rfl g12]
  refine EvL.fnS (zbm g14) rfl rfl (.cons (Mzs.agg (.cons (zad _ _ (fun h=>by cases h<;>contradiction)) (.cons (zad _ _ (fun h=>by cases h<;>contradiction)) (.cons (zad _ _ (fun h=>by cases h<;>contradiction)) .nil)))) (.cons (.lit _) .nil)) ⟨⟨(zaa _ _),(zaa _ _),(zaa _ _),qci⟩,qci,qci⟩ ⟨⟨(zaa _ _),(zaa _ _),(zaa _ _),qci⟩,qci,qci⟩ ?_;obtain⟨r15,g16,h⟩:=bind_some h;try simp only[rnA,Nat.reduceEqDiff,Nat.reduceLT,Nat.reduceAdd,Nat.reduceLeDiff,reduceCtorEq]
  refine EvL.fnS (zbm g16) rfl rfl (.cons (Mzs.agg (.cons (zad _ _ (fun h=>by cases h<;>contradiction)) (.cons (zad _ _ (fun h=>by cases h<;>contradiction)) (.cons (zad _ _ (fun h=>by cases h<;>contradiction)) .nil)))) (.cons (.lit _) .nil)) ⟨⟨(zaa _ _),(zaa _ _),(zaa _ _),qci⟩,qci,qci⟩ ⟨⟨(zaa _ _),(zaa _ _),(zaa _ _),qci⟩,qci,qci⟩ ?_;obtain⟨r17,g18,h⟩:=bind_some h;try simp only[rnA,Nat.reduceEqDiff,Nat.reduceLT,Nat.reduceAdd,Nat.reduceLeDiff,reduceCtorEq]
  refine EvL.fnS (zbm g18) rfl rfl (.cons (Mzs.agg (.cons (zad _ _ (fun h=>by cases h<;>contradiction)) (.cons (zad _ _ (fun h=>by cases h<;>contradiction)) (.cons (zad _ _ (fun h=>by cases h<;>contradiction)) .nil)))) (.cons (.lit _) .nil)) ⟨⟨(zaa _ _),(zaa _ _),(zaa _ _),qci⟩,qci,qci⟩ ⟨⟨(zaa _ _),(zaa _ _),(zaa _ _),qci⟩,qci,qci⟩ ?_;obtain⟨r19,g20,h⟩:=bind_some h;try simp only[rnA,Nat.reduceEqDiff,Nat.reduceLT,Nat.reduceAdd,Nat.reduceLeDiff,reduceCtorEq]
  refine EvL.fnS (zbO g20) rfl rfl (.cons (Mzs.agg (.cons (zad _ _ (fun h=>by cases h<;>contradiction)) (.cons (zad _ _ (fun h=>by cases h<;>contradiction)) (.cons (zad _ _ (fun h=>by cases h<;>contradiction)) .nil)))) (.cons (.lit _) .nil)) ⟨⟨(zaa _ _),(zaa _ _),(zaa _ _),qci⟩,qci,qci⟩ ⟨⟨(zaa _ _),(zaa _ _),(zaa _ _),qci⟩,qci,qci⟩ ?_;obtain⟨r21,g22,h⟩:=bind_some h;try simp only[rnA,Nat.reduceEqDiff,Nat.reduceLT,Nat.reduceAdd,Nat.reduceLeDiff,reduceCtorEq]
  refine EvL.fnS (zbO g22) rfl rfl (.cons (Mzs.agg (.cons (zad _ _ (fun h=>by cases h<;>contradiction)) (.cons (zad _ _ (fun h=>by cases h<;>contradiction)) (.cons (zad _ _ (fun h=>by cases h<;>contradiction)) .nil)))) (.cons (.lit _) .nil)) ⟨⟨(zaa _ _),(zaa _ _),(zaa _ _),qci⟩,qci,qci⟩ ⟨⟨(zaa _ _),(zaa _ _),(zaa _ _),qci⟩,qci,qci⟩ ?_;obtain⟨r23,g24,h⟩:=bind_some h;try simp only[rnA,Nat.reduceEqDiff,Nat.reduceLT,Nat.reduceAdd,Nat.reduceLeDiff,reduceCtorEq]
  refine EvL.fnS (zbO g24) rfl rfl (.cons (Mzs.agg (.cons (zad _ _ (fun h=>by cases h<;>contradiction)) (.cons (zad _ _ (fun h=>by cases h<;>contradiction)) (.cons (zad _ _ (fun h=>by cases h<;>contradiction)) .nil)))) (.cons (.lit _) .nil)) ⟨⟨(zaa _ _),(zaa _ _),(zaa _ _),qci⟩,qci,qci⟩ ⟨⟨(zaa _ _),(zaa _ _),(zaa _ _),qci⟩,qci,qci⟩ ?_;obtain⟨r25,g26,h⟩:=bind_some h;try simp only[rnA,Nat.reduceEqDiff,Nat.reduceLT,Nat.reduceAdd,Nat.reduceLeDiff,reduceCtorEq]
  refine EvL.fn (zdk g26) rfl rfl (.cons (.za8 (.cons (zab _ _ (fun h=>nomatch h)) (.cons (zab _ _ (fun h=>nomatch h)) (.cons (zab _ _ (fun h=>nomatch h)) .nil)))) .nil) ?_;obtain⟨r27,g28,h⟩:=bind_some h;try simp only[rnA,Nat.reduceEqDiff,Nat.reduceLT,Nat.reduceAdd,Nat.reduceLeDiff,reduceCtorEq]
  refine EvL.fn (zdk g28) rfl rfl (.cons (.za8 (.cons (zab _ _ (fun h=>nomatch h)) (.cons (zab _ _ (fun h=>nomatch h)) (.cons (zab _ _ (fun h=>nomatch h)) .nil)))) .nil) ?_;try simp only[rnA,Nat.reduceEqDiff,Nat.reduceLT,reduceCtorEq]
  obtain⟨o1,j1,h⟩:=bind_some h;obtain⟨T1,hT1⟩:=mkT fun a:Bool=>⟨173,[(5,(.ptr 1 0)),(7,(dI x9)),(11,(.ptr 3 0)),(13,(.ptr 4 0)),(17,(.ptr 6 0)),(19,(.ptr 7 0)),(132,(dB a))],[.gone,.cells [(fzE true (eI .i64) r4.vars),(fzE true (eI .i64) r4.zae),(fzE true (eI .i64) r4.w)],.gone,.cells [(fzE false (eI .i64) r15.1.vars),(fzE false (eI .i64) r15.1.zae),(fzE false (eI .i64) r15.1.w)],.cells [(fzE false (eI .i64) r17.1.vars),(fzE false (eI .i64) r17.1.zae),(fzE false (eI .i64) r17.1.w)],.gone,.cells [(fzE false (eI .i64) r21.1.vars),(fzE false (eI .i64) r21.1.zae),(fzE false (eI .i64) r21.1.w)],.cells [(fzE false (eI .i64) r23.1.vars),(fzE false (eI .i64) r23.1.zae),(fzE false (eI .i64) r23.1.w)]]⟩
  refine EvL.jn T1 (fun a=>a=o1) ?_ ?_
  ·refine zac ?_;try simp only[rnA,Nat.reduceEqDiff,Nat.reduceLT,reduceCtorEq]
   cases c29:(r13.2 == 0)
   ·rw[c29,cond_false]at j1;try simp only[rnA,Nat.reduceEqDiff,Nat.reduceLT,reduceCtorEq]
    replace j1:=qab j1; subst j1;exact lfj hT1 rfl (wm0 [.d,.k,.d,.k,.k,.d,.k,.k] ⟨rfl,⟨MB.cs ⟨qci,qci,qci,qci⟩,⟨rfl,⟨MB.cs ⟨qci,qci,qci,qci⟩,⟨MB.cs ⟨qci,qci,qci,qci⟩,⟨rfl,⟨MB.cs ⟨qci,qci,qci,qci⟩,⟨MB.cs ⟨qci,qci,qci,qci⟩,qci⟩⟩⟩⟩⟩⟩⟩⟩)
   rw[c29,cond_true]at j1;try simp only[rnA,Nat.reduceEqDiff,Nat.reduceLT,reduceCtorEq]
   cases c30:(r15.2 == 0)
   ·rw[c30,cond_false]at j1;try simp only[rnA,Nat.reduceEqDiff,Nat.reduceLT,reduceCtorEq]
    replace j1:=qab j1; subst j1;exact lfj hT1 rfl (wm0 [.d,.k,.d,.k,.k,.d,.k,.k] ⟨rfl,⟨MB.cs ⟨qci,qci,qci,qci⟩,⟨rfl,⟨MB.cs ⟨qci,qci,qci,qci⟩,⟨MB.cs ⟨qci,qci,qci,qci⟩,⟨rfl,⟨MB.cs ⟨qci,qci,qci,qci⟩,⟨MB.cs ⟨qci,qci,qci,qci⟩,qci⟩⟩⟩⟩⟩⟩⟩⟩)
   rw[c30,cond_true]at j1;try simp only[rnA,Nat.reduceEqDiff,Nat.reduceLT,reduceCtorEq]
   cases c31:(r17.2 == 0)
   ·rw[c31,cond_false]at j1;try simp only[rnA,Nat.reduceEqDiff,Nat.reduceLT,reduceCtorEq]
    replace j1:=qab j1; subst j1;exact lfj hT1 rfl (wm0 [.d,.k,.d,.k,.k,.d,.k,.k] ⟨rfl,⟨MB.cs ⟨qci,qci,qci,qci⟩,⟨rfl,⟨MB.cs ⟨qci,qci,qci,qci⟩,⟨MB.cs ⟨qci,qci,qci,qci⟩,⟨rfl,⟨MB.cs ⟨qci,qci,qci,qci⟩,⟨MB.cs ⟨qci,qci,qci,qci⟩,qci⟩⟩⟩⟩⟩⟩⟩⟩)
   rw[c31,cond_true]at j1;try simp only[rnA,Nat.reduceEqDiff,Nat.reduceLT,reduceCtorEq]
   cases c32:(r19.2 == 0)
   ·rw[c32,cond_false]at j1;try simp only[rnA,Nat.reduceEqDiff,Nat.reduceLT,reduceCtorEq]
    replace j1:=qab j1; subst j1;exact lfj hT1 rfl (wm0 [.d,.k,.d,.k,.k,.d,.k,.k] ⟨rfl,⟨MB.cs ⟨qci,qci,qci,qci⟩,⟨rfl,⟨MB.cs ⟨qci,qci,qci,qci⟩,⟨MB.cs ⟨qci,qci,qci,qci⟩,⟨rfl,⟨MB.cs ⟨qci,qci,qci,qci⟩,⟨MB.cs ⟨qci,qci,qci,qci⟩,qci⟩⟩⟩⟩⟩⟩⟩⟩)
   rw[c32,cond_true]at j1;try simp only[rnA,Nat.reduceEqDiff,Nat.reduceLT,reduceCtorEq]
   cases c33:(r21.2 == 0)
   ·rw[c33,cond_false]at j1;try simp only[rnA,Nat.reduceEqDiff,Nat.reduceLT,reduceCtorEq]
    replace j1:=qab j1; subst j1;exact lfj hT1 rfl (wm0 [.d,.k,.d,.k,.k,.d,.k,.k] ⟨rfl,⟨MB.cs ⟨qci,qci,qci,qci⟩,⟨rfl,⟨MB.cs ⟨qci,qci,qci,qci⟩,⟨MB.cs ⟨qci,qci,qci,qci⟩,⟨rfl,⟨MB.cs ⟨qci,qci,qci,qci⟩,⟨MB.cs ⟨qci,qci,qci,qci⟩,qci⟩⟩⟩⟩⟩⟩⟩⟩)
   rw[c33,cond_true]at j1;try simp only[rnA,Nat.reduceEqDiff,Nat.reduceLT,reduceCtorEq]
   cases c34:(r23.2 == 0)
   ·rw[c34,cond_false]at j1;try simp only[rnA,Nat.reduceEqDiff,Nat.reduceLT,reduceCtorEq]
    replace j1:=qab j1; subst j1;exact lfj hT1 rfl (wm0 [.d,.k,.d,.k,.k,.d,.k,.k] ⟨rfl,⟨MB.cs ⟨qci,qci,qci,qci⟩,⟨rfl,⟨MB.cs ⟨qci,qci,qci,qci⟩,⟨MB.cs ⟨qci,qci,qci,qci⟩,⟨rfl,⟨MB.cs ⟨qci,qci,qci,qci⟩,⟨MB.cs ⟨qci,qci,qci,qci⟩,qci⟩⟩⟩⟩⟩⟩⟩⟩)
   rw[c34,cond_true]at j1;try simp only[rnA,Nat.reduceEqDiff,Nat.reduceLT,reduceCtorEq]
   cases c35:(r25.2 == 0)
   ·rw[c35,cond_false]at j1;try simp only[rnA,Nat.reduceEqDiff,Nat.reduceLT,reduceCtorEq]
    replace j1:=qab j1; subst j1;exact lfj hT1 rfl (wm0 [.d,.k,.d,.k,.k,.d,.k,.k] ⟨rfl,⟨MB.cs ⟨qci,qci,qci,qci⟩,⟨rfl,⟨MB.cs ⟨qci,qci,qci,qci⟩,⟨MB.cs ⟨qci,qci,qci,qci⟩,⟨rfl,⟨MB.cs ⟨qci,qci,qci,qci⟩,⟨MB.cs ⟨qci,qci,qci,qci⟩,qci⟩⟩⟩⟩⟩⟩⟩⟩)
   rw[c35,cond_true]at j1;try simp only[rnA,Nat.reduceEqDiff,Nat.reduceLT,reduceCtorEq]
   cases c36:(r27.2 == 0)
   ·rw[c36,cond_false]at j1;try simp only[rnA,Nat.reduceEqDiff,Nat.reduceLT,reduceCtorEq]
    replace j1:=qab j1; subst j1;exact lfj hT1 rfl (wm0 [.d,.k,.d,.k,.k,.d,.k,.k] ⟨rfl,⟨MB.cs ⟨qci,qci,qci,qci⟩,⟨rfl,⟨MB.cs ⟨qci,qci,qci,qci⟩,⟨MB.cs ⟨qci,qci,qci,qci⟩,⟨rfl,⟨MB.cs ⟨qci,qci,qci,qci⟩,⟨MB.cs ⟨qci,qci,qci,qci⟩,qci⟩⟩⟩⟩⟩⟩⟩⟩)
   rw[c36,cond_true]at j1;try simp only[rnA,Nat.reduceEqDiff,Nat.reduceLT,reduceCtorEq]
   replace j1:=qab j1; subst j1;exact lfj hT1 rfl (wm0 [.d,.k,.d,.k,.k,.d,.k,.k] ⟨rfl,⟨MB.cs ⟨qci,qci,qci,qci⟩,⟨rfl,⟨MB.cs ⟨qci,qci,qci,qci⟩,⟨MB.cs ⟨qci,qci,qci,qci⟩,⟨rfl,⟨MB.cs ⟨qci,qci,qci,qci⟩,⟨MB.cs ⟨qci,qci,qci,qci⟩,qci⟩⟩⟩⟩⟩⟩⟩⟩)
  rintro v132 rfl;rw[congrFun hT1 v132];refine zac ?_;try simp only[rnA,Nat.reduceEqDiff]
  cases c37:v132
  ·rw[c37,cond_false]at h;try simp only[rnA]
   obtain⟨o2,j2,h⟩:=bind_some h;obtain⟨T2,hT2⟩:=mkT fun a:Bool=>⟨173,[(4,(dB a))],[]⟩
   refine EvL.jn T2 (fun a=>a=o2) ?_ ?_
   ·refine zac ?_;obtain⟨r38,g39,j2⟩:=bind_some j2;try simp only[rnA,Nat.reduceEqDiff,Nat.reduceLT,Nat.reduceAdd,Nat.reduceLeDiff]
    refine EvL.fnS (zbP g39) rfl rfl (.cons (Mzs.agg (.cons (zad _ _ (fun h=>by cases h<;>contradiction)) (.cons (zad _ _ (fun h=>by cases h<;>contradiction)) (.cons (zad _ _ (fun h=>by cases h<;>contradiction)) .nil)))) .nil) ⟨⟨(zaa _ _),(zaa _ _),(zaa _ _),qci⟩,qci⟩ ⟨qci,⟨⟨rfl,zak.fr _⟩,qci⟩⟩ ?_;obtain⟨r40,g41,j2⟩:=bind_some j2;try simp only[rnA,Nat.reduceLT,zaf]
    refine EvL.fnS (zbm g41) rfl rfl (.cons (Mzs.agg (.cons (zad _ _ (fun h=>by cases h<;>contradiction)) (.cons (zad _ _ (fun h=>by cases h<;>contradiction)) (.cons (zad _ _ (fun h=>by cases h<;>contradiction)) .nil)))) (.cons (.lit _) .nil)) ⟨⟨(zaa _ _),(zaa _ _),(zaa _ _),qci⟩,qci,qci⟩ ⟨⟨(zaa _ _),(zaa _ _),(zaa _ _),qci⟩,qci,qci⟩ ?_;obtain⟨r42,g43,j2⟩:=bind_some j2;try simp only[rnA,Nat.reduceEqDiff,Nat.reduceLT]
    refine EvL.fnv rfl rfl (zbe g43) rfl (.cons (.za8 (.cons (zab _ _ (fun h=>nomatch h)) (.cons (zab _ _ (fun h=>nomatch h)) (.cons (zab _ _ (fun h=>nomatch h)) .nil)))) (.cons (.lit _) (.cons (.fptr (fun h=>nomatch h) rfl (zak.snp (t:=false) (t':=false) r38 (fun h=>nomatch h)).get) .nil))) ?_;try simp only[rnA,Nat.reduceEqDiff,Nat.reduceLT]
    cases c44:r42
    ·rw[c44,cond_false]at j2;try simp only[rnA,Nat.reduceEqDiff,Nat.reduceLT]
     refine EvL.skip rfl ?_;try simp only[rnA,Nat.reduceLT]
     refine EvL.skip rfl ?_;try simp only[rnA,Nat.reduceEqDiff,Nat.reduceLT]
     refine EvL.skip rfl ?_;try simp only[rnA,Nat.reduceEqDiff,Nat.reduceLT]
     refine EvL.skip rfl ?_;try simp only[rnA,Nat.reduceLT]
     refine EvL.skip rfl ?_;try simp only[rnA,Nat.reduceEqDiff,Nat.reduceLT]
     refine EvL.skip rfl ?_;try simp only[rnA,Nat.reduceEqDiff,Nat.reduceLT]
     refine EvL.skip rfl ?_;try simp only[rnA,Nat.reduceLT]
     refine EvL.skip rfl ?_;try simp only[rnA,Nat.reduceEqDiff,Nat.reduceLT]
     refine EvL.skip rfl ?_;try simp only[rnA,Nat.reduceEqDiff,Nat.reduceLT]
     replace j2:=qab j2; subst j2;exact lfj hT2 rfl (wm0 [] (by exact trivial))
    rw[c44,cond_true]at j2;obtain⟨r45,g46,j2⟩:=bind_some j2;try simp only[rnA,Nat.reduceEqDiff,Nat.reduceLT,Nat.reduceAdd,Nat.reduceLeDiff]
    refine EvL.fnS (zbP g46) rfl rfl (.cons (Mzs.agg (.cons (zad _ _ (fun h=>by cases h<;>contradiction)) (.cons (zad _ _ (fun h=>by cases h<;>contradiction)) (.cons (zad _ _ (fun h=>by cases h<;>contradiction)) .nil)))) .nil) ⟨⟨(zaa _ _),(zaa _ _),(zaa _ _),qci⟩,qci⟩ ⟨qci,⟨⟨rfl,zak.fr _⟩,qci⟩⟩ ?_;obtain⟨r47,g48,j2⟩:=bind_some j2;try simp only[rnA,Nat.reduceLT,zaf]
    refine EvL.fnS (zbO g48) rfl rfl (.cons (Mzs.agg (.cons (zad _ _ (fun h=>by cases h<;>contradiction)) (.cons (zad _ _ (fun h=>by cases h<;>contradiction)) (.cons (zad _ _ (fun h=>by cases h<;>contradiction)) .nil)))) (.cons (.lit _) .nil)) ⟨⟨(zaa _ _),(zaa _ _),(zaa _ _),qci⟩,qci,qci⟩ ⟨⟨(zaa _ _),(zaa _ _),(zaa _ _),qci⟩,qci,qci⟩ ?_;obtain⟨r49,g50,j2⟩:=bind_some j2;try simp only[rnA,Nat.reduceEqDiff,Nat.reduceLT]
    refine EvL.fnv rfl rfl (zbe g50) rfl (.cons (.za8 (.cons (zab _ _ (fun h=>nomatch h)) (.cons (zab _ _ (fun h=>nomatch h)) (.cons (zab _ _ (fun h=>nomatch h)) .nil)))) (.cons (.lit _) (.cons (.fptr (fun h=>nomatch h) rfl (zak.snp (t:=false) (t':=false) r45 (fun h=>nomatch h)).get) .nil))) ?_;try simp only[rnA,Nat.reduceEqDiff,Nat.reduceLT]
    cases c51:r49
    ·rw[c51,cond_false]at j2;try simp only[rnA,Nat.reduceEqDiff,Nat.reduceLT]
     refine EvL.skip rfl ?_;try simp only[rnA,Nat.reduceLT]
     refine EvL.skip rfl ?_;try simp only[rnA,Nat.reduceEqDiff,Nat.reduceLT]
     refine EvL.skip rfl ?_;try simp only[rnA,Nat.reduceEqDiff,Nat.reduceLT]
     refine EvL.skip rfl ?_;try simp only[rnA,Nat.reduceLT]
     refine EvL.skip rfl ?_;try simp only[rnA,Nat.reduceEqDiff,Nat.reduceLT]
     refine EvL.skip rfl ?_;try simp only[rnA,Nat.reduceEqDiff,Nat.reduceLT]
     replace j2:=qab j2; subst j2;exact lfj hT2 rfl (wm0 [] (by exact trivial))
    rw[c51,cond_true]at j2;obtain⟨r52,g53,j2⟩:=bind_some j2;try simp only[rnA,Nat.reduceEqDiff,Nat.reduceLT,Nat.reduceAdd,Nat.reduceLeDiff]
    refine EvL.fnS (zbP g53) rfl rfl (.cons (Mzs.agg (.cons (zad _ _ (fun h=>by cases h<;>contradiction)) (.cons (zad _ _ (fun h=>by cases h<;>contradiction)) (.cons (zad _ _ (fun h=>by cases h<;>contradiction)) .nil)))) .nil) ⟨⟨(zaa _ _),(zaa _ _),(zaa _ _),qci⟩,qci⟩ ⟨qci,⟨⟨rfl,zak.fr _⟩,qci⟩⟩ ?_;obtain⟨r54,g55,j2⟩:=bind_some j2;try simp only[rnA,Nat.reduceLT,zaf]
    refine EvL.fnS (zcj g55) rfl rfl (.cons (Mzs.agg (.cons (zad _ _ (fun h=>by cases h<;>contradiction)) (.cons (zad _ _ (fun h=>by cases h<;>contradiction)) (.cons (zad _ _ (fun h=>by cases h<;>contradiction)) .nil)))) (.cons (zad _ _ (fun h=>by cases h<;>contradiction)) .nil)) ⟨⟨(zaa _ _),(zaa _ _),(zaa _ _),qci⟩,(zaa _ _),qci⟩ ⟨⟨(zaa _ _),(zaa _ _),(zaa _ _),qci⟩,qci,qci⟩ ?_;obtain⟨r56,g57,j2⟩:=bind_some j2;try simp only[rnA,Nat.reduceEqDiff,Nat.reduceLT]
    refine EvL.fnv rfl rfl (zbe g57) rfl (.cons (.za8 (.cons (zab _ _ (fun h=>nomatch h)) (.cons (zab _ _ (fun h=>nomatch h)) (.cons (zab _ _ (fun h=>nomatch h)) .nil)))) (.cons (.lit _) (.cons (.fptr (fun h=>nomatch h) rfl (zak.snp (t:=false) (t':=false) r52 (fun h=>nomatch h)).get) .nil))) ?_;try simp only[rnA,Nat.reduceEqDiff,Nat.reduceLT]
    cases c58:r56
    ·rw[c58,cond_false]at j2;try simp only[rnA,Nat.reduceEqDiff,Nat.reduceLT]
     refine EvL.skip rfl ?_;try simp only[rnA,Nat.reduceLT]
     refine EvL.skip rfl ?_;try simp only[rnA,Nat.reduceEqDiff,Nat.reduceLT]
     refine EvL.skip rfl ?_;try simp only[rnA,Nat.reduceEqDiff,Nat.reduceLT]
     replace j2:=qab j2; subst j2;exact lfj hT2 rfl (wm0 [] (by exact trivial))
    rw[c58,cond_true]at j2;obtain⟨r59,g60,j2⟩:=bind_some j2;try simp only[rnA,Nat.reduceEqDiff,Nat.reduceLT,Nat.reduceAdd,Nat.reduceLeDiff]
    refine EvL.fnS (zbP g60) rfl rfl (.cons (Mzs.agg (.cons (zad _ _ (fun h=>by cases h<;>contradiction)) (.cons (zad _ _ (fun h=>by cases h<;>contradiction)) (.cons (zad _ _ (fun h=>by cases h<;>contradiction)) .nil)))) .nil) ⟨⟨(zaa _ _),(zaa _ _),(zaa _ _),qci⟩,qci⟩ ⟨qci,⟨⟨rfl,zak.fr _⟩,qci⟩⟩ ?_;obtain⟨r61,g62,j2⟩:=bind_some j2;try simp only[rnA,Nat.reduceLT,zaf]
    refine EvL.fnS (zcj g62) rfl rfl (.cons (Mzs.agg (.cons (zad _ _ (fun h=>by cases h<;>contradiction)) (.cons (zad _ _ (fun h=>by cases h<;>contradiction)) (.cons (zad _ _ (fun h=>by cases h<;>contradiction)) .nil)))) (.cons (zad _ _ (fun h=>by cases h<;>contradiction)) .nil)) ⟨⟨(zaa _ _),(zaa _ _),(zaa _ _),qci⟩,(zaa _ _),qci⟩ ⟨⟨(zaa _ _),(zaa _ _),(zaa _ _),qci⟩,qci,qci⟩ ?_;obtain⟨r63,g64,j2⟩:=bind_some j2;try simp only[rnA,Nat.reduceEqDiff,Nat.reduceLT]
    refine EvL.fnv rfl rfl (zbe g64) rfl (.cons (.za8 (.cons (zab _ _ (fun h=>nomatch h)) (.cons (zab _ _ (fun h=>nomatch h)) (.cons (zab _ _ (fun h=>nomatch h)) .nil)))) (.cons (.lit _) (.cons (.fptr (fun h=>nomatch h) rfl (zak.snp (t:=false) (t':=false) r59 (fun h=>nomatch h)).get) .nil))) ?_;try simp only[rnA,Nat.reduceEqDiff,Nat.reduceLT]
    replace j2:=qab j2; subst j2;exact lfj hT2 rfl (wm0 [] (by exact trivial))
   rintro v4 rfl;rw[congrFun hT2 v4];refine zac ?_;try simp only[rnA]
   replace h:=qab h; subst h;exact zcE.ret rfl (.lit _)
  rw[c37,cond_true]at h;try simp only[rnA,Nat.reduceLT]
  replace h:=qab h; subst h;exact zcE.ret rfl (.lit _)
 rw[c6,cond_true]at h;try simp only[rnA,Nat.reduceLT]
 replace h:=qab h; subst h;exact zcE.ret rfl (.lit _)
end Go.Dc
