/-
 What l03_FactorPulls computes. Conditions: none.
-/
import Derived.Test.YtnfgibomhkbcpaaFuJ4
set_option linter.unusedSimpArgs false
set_option linter.unusedVariables false
set_option maxRecDepth 100000
set_option maxHeartbeats 4000000
namespace Go.Dc
open Go Go.Mx Go.Lx Go.Proofs
def zcj(N:Nat)(p0:S_haruspexref03_Draft)(p1:S_haruspexref03_Draft)(p2:Int):Option Bool:=
(zcY).bind fun r1=>
bif r1 then(
(ztu .u8 1 (w64 (p2.tmod 5))).bind fun q4=>
(zaD N (S_haruspexref03_Draft.mk (zum .u8 p0.which q4) p0.n false)).bind fun r6=>
(zaD N (S_haruspexref03_Draft.mk (orI .u8 p1.which q4) p1.n false)).bind fun r8=>
(zaV r6 r8).bind fun r10=>
(zaZ r8 (w64 (p2.tmod 5))).bind fun r12=>
(zbc r8 (w64 (p2.tmod 5))).bind fun r14=>
(zbb r8 (w64 (p2.tmod 5)) 0).bind fun r16=>
(zaZ r10.1 (w64 (p2.tmod 5))).bind fun r18=>
(zbc r10.1 (w64 (p2.tmod 5))).bind fun r20=>
(zbb r10.1 (w64 (p2.tmod 5)) 0).bind fun r22=>
((bif (r10.2 == 0)then(
bif (r12.2 == 0)then(
bif (r14.2 == 0)then(
bif (r16.2 == 0)then(
bif (r18.2 == 0)then(
bif (r20.2 == 0)then(
bif (r22.2 == 0)then(
(zcl r18.1).bind fun r31=>
(zaV r6 r12.1).bind fun r33=>
(za7 r33.1 r33.2 r31).bind fun r35=>
bif r35 then(
(zcl r20.1).bind fun r38=>
(zaV r6 r14.1).bind fun r40=>
(za7 r40.1 r40.2 r38).bind fun r42=>
bif r42 then(
(zcl r22.1).bind fun r45=>
(zaV r6 r16.1).bind fun r47=>
(za7 r47.1 r47.2 r45).bind fun r49=>
some r49)
else(
some false))
else(
some false))
else(
some false))
else(
some false))
else(
some false))
else(
some false))
else(
some false))
else(
some false))
else(
some false):Option Bool)).bind fun v6=>
some v6)
else(
some false)
def zd9:C:=
 .seq (rg [oW 3 0,
 oW 4 1,
 oJ 6 false])
 (.seq (.seq (rg [⟨some 24,.call 20 [],none⟩,
 ⟨some 25,.un .not (.s 24),none⟩])
 (.cond (.s 25) (.seq (rg [oJ 6 false])
 (.ret))
 (.skip)))
 (.seq (rg [oF 26 2 3,
 ⟨none,.store 1 (.s 26) (.c (.bool false)),none⟩,
 oF 27 2 4,
 ⟨none,.store 1 (.s 27) (.c (.bool false)),none⟩])
 (.seq (rg [oM 28 2,
 ⟨some 29,.bin .rem (.s 28) (.c (.int .u8 5)),none⟩,
 ⟨some 30,.conv .i64 (.s 29),none⟩,
 oM 7 30])
 (.seq (.reg true false [oF 31 0 3,
 oL 32 31,
 oM 33 7,
 ⟨some 34,.bin .shl (.c (.int .u8 1)) (.s 33),none⟩,
 oB 35 .andNot 32 34,
 oF 36 0 4,
 oL 37 36,
 oM 38 7,
 ⟨some 39,.bin .shl (.c (.int .u8 1)) (.s 38),none⟩,
 oB 40 .or 37 39,
 oF 41 0 3,
 ⟨none,.avo [(.s 36)] (.s 41),none⟩,
 oS 1 41 35,
 oF 42 0 4,
 oS 1 42 40])
 (.seq (.reg true true [oN 43 3 3,
 oN 45 3 4,
 oU 44 22 43,
 oU 46 22 45,
 ⟨some 8,.alloc [(.slice none 0 0),(.slice none 0 0),(.slice none 0 0)],none⟩,
 ⟨some 9,.alloc [(.slice none 0 0),(.slice none 0 0),(.slice none 0 0)],none⟩,
 oS 3 8 44,
 oS 3 9 46])
 (.seq (rg [oN 48 3 8,
 oN 49 3 9,
 oV 50 25 48 49,
 oM 47 50,
 oX 51 47 0,
 oX 52 47 1,
 ⟨some 10,.alloc [(.slice none 0 0),(.slice none 0 0),(.slice none 0 0)],none⟩,
 oS 3 10 51,
 oM 11 52])
 (.seq (rg [oN 54 3 9,
 oM 55 7,
 oV 56 32 54 55,
 oM 53 56,
 oX 57 53 0,
 oX 58 53 1,
 ⟨some 12,.alloc [(.slice none 0 0),(.slice none 0 0),(.slice none 0 0)],none⟩,
 oS 3 12 57,
 oM 13 58])
 (.seq (rg [oN 60 3 9,
 oM 61 7,
 oV 62 33 60 61,
 oM 59 62,
 oX 63 59 0,
 oX 64 59 1,
 ⟨some 14,.alloc [(.slice none 0 0),(.slice none 0 0),(.slice none 0 0)],none⟩,
 oS 3 14 63,
 oM 15 64])
 (.seq (rg [oN 66 3 9,
 oM 67 7,
 ⟨some 68,.call 34 [(.s 66),(.s 67),(.c (.int .i64 0))],none⟩,
 oM 65 68,
 oX 69 65 0,
 oX 70 65 1,
 ⟨some 16,.alloc [(.slice none 0 0),(.slice none 0 0),(.slice none 0 0)],none⟩,
 oS 3 16 69,
 oM 17 70])
 (.seq (rg [oN 72 3 10,
 oM 73 7,
 oV 74 32 72 73,
 oM 71 74,
 oX 75 71 0,
 oX 76 71 1,
 ⟨some 18,.alloc [(.slice none 0 0),(.slice none 0 0),(.slice none 0 0)],none⟩,
 oS 3 18 75,
 oM 19 76])
 (.seq (rg [oN 78 3 10,
 oM 79 7,
 oV 80 33 78 79,
 oM 77 80,
 oX 81 77 0,
 oX 82 77 1,
 ⟨some 20,.alloc [(.slice none 0 0),(.slice none 0 0),(.slice none 0 0)],none⟩,
 oS 3 20 81,
 oM 21 82])
 (.seq (rg [oN 84 3 10,
 oM 85 7,
 ⟨some 86,.call 34 [(.s 84),(.s 85),(.c (.int .i64 0))],none⟩,
 oM 83 86,
 oX 87 83 0,
 oX 88 83 1,
 ⟨some 22,.alloc [(.slice none 0 0),(.slice none 0 0),(.slice none 0 0)],none⟩,
 oS 3 22 87,
 oM 23 88])
 (.seq (.scope (.reg true true [oM 89 11,
 oD 90 .eql 89 0,
 oM 91 90,
 oMg 92 13 91 true,
 oDg 93 .eql 92 0 91 true,
 ⟨some 94,.pick (.s 91) (.s 93) (.c (.bool false)),none⟩,
 oM 95 94,
 oMg 96 15 95 true,
 oDg 97 .eql 96 0 95 true,
 ⟨some 98,.pick (.s 95) (.s 97) (.c (.bool false)),none⟩,
 oM 99 98,
 oMg 100 17 99 true,
 oDg 101 .eql 100 0 99 true,
 ⟨some 102,.pick (.s 99) (.s 101) (.c (.bool false)),none⟩,
 oM 103 102,
 oMg 104 19 103 true,
 oDg 105 .eql 104 0 103 true,
 ⟨some 106,.pick (.s 103) (.s 105) (.c (.bool false)),none⟩,
 oM 107 106,
 oMg 108 21 107 true,
 oDg 109 .eql 108 0 107 true,
 ⟨some 110,.pick (.s 107) (.s 109) (.c (.bool false)),none⟩,
 oM 111 110,
 oMg 112 23 111 true,
 oDg 113 .eql 112 0 111 true,
 ⟨some 114,.pick (.s 111) (.s 113) (.c (.bool false)),none⟩,
 oM 115 114,
 ⟨some 116,.load (some 3) (.s 18),some (115,true)⟩,
 ⟨some 118,.load (some 3) (.s 8),some (115,true)⟩,
 ⟨some 119,.load (some 3) (.s 12),some (115,true)⟩,
 ⟨some 117,.call 44 [(.s 116)],some (115,true)⟩,
 ⟨some 120,.call 25 [(.s 118),(.s 119)],some (115,true)⟩,
 ⟨some 121,.ext (.s 120) 0,some (115,true)⟩,
 ⟨some 122,.ext (.s 120) 1,some (115,true)⟩,
 ⟨some 123,.zbK (.s 117) [(.s 121),(.s 122)],some (115,true)⟩,
 ⟨some 124,.pick (.s 115) (.s 123) (.c (.bool false)),none⟩,
 oM 125 124,
 ⟨some 126,.load (some 3) (.s 20),some (125,true)⟩,
 ⟨some 128,.load (some 3) (.s 8),some (125,true)⟩,
 ⟨some 129,.load (some 3) (.s 14),some (125,true)⟩,
 ⟨some 127,.call 44 [(.s 126)],some (125,true)⟩,
 ⟨some 130,.call 25 [(.s 128),(.s 129)],some (125,true)⟩,
 ⟨some 131,.ext (.s 130) 0,some (125,true)⟩,
 ⟨some 132,.ext (.s 130) 1,some (125,true)⟩,
 ⟨some 133,.zbK (.s 127) [(.s 131),(.s 132)],some (125,true)⟩,
 ⟨some 134,.pick (.s 125) (.s 133) (.c (.bool false)),none⟩,
 oM 135 134,
 ⟨some 136,.load (some 3) (.s 22),some (135,true)⟩,
 ⟨some 138,.load (some 3) (.s 8),some (135,true)⟩,
 ⟨some 139,.load (some 3) (.s 16),some (135,true)⟩,
 ⟨some 137,.call 44 [(.s 136)],some (135,true)⟩,
 ⟨some 140,.call 25 [(.s 138),(.s 139)],some (135,true)⟩,
 ⟨some 141,.ext (.s 140) 0,some (135,true)⟩,
 ⟨some 142,.ext (.s 140) 1,some (135,true)⟩,
 ⟨some 143,.zbK (.s 137) [(.s 141),(.s 142)],some (135,true)⟩,
 ⟨some 144,.pick (.s 135) (.s 143) (.c (.bool false)),none⟩,
 oM 6 144]))
 (.ret))))))))))))))
theorem zfk:zgX mC 9=some (145,zd9,[.tmp 6],false):=zba (by kernel_rfl)
theorem zfW{N:Nat}{p0:S_haruspexref03_Draft}{p1:S_haruspexref03_Draft}{p2:Int}{r:Bool}(h:zcj N p0 p1 p2=some r):Lx.Fn mC 9 [(.agg [(dU8 p0.which),(fzE false (eI .u8) p0.n),(dB p0.large)]),(.agg [(dU8 p1.which),(fzE false (eI .u8) p1.n),(dB p1.large)]),(dU8 p2)] (dB r):=by
 refine Fn.of zfk (za2 rfl) (qad rfl) ?_;unfold zcj at h;simp only[zd9,zk3];refine zab ?_;obtain⟨r1,g2,h⟩:=bind_some h;try simp only[rnA,Nat.reduceEqDiff,Nat.reduceLT,Nat.reduceAdd,reduceCtorEq]
 refine EvL.fn (zkB g2) rfl rfl .nil ?_;try simp only[rnA,Nat.reduceEqDiff,Nat.reduceLT,reduceCtorEq]
 cases c3:r1
 ·rw[c3,cond_false]at h;try simp only[rnA,Nat.reduceLT]
  replace h:=qac h; subst h;exact zcR.ret rfl (.lit _)
 rw[c3,cond_true]at h;obtain⟨q4,g5,h⟩:=bind_some h;obtain⟨r6,g7,h⟩:=bind_some h;try simp only[rnA,Nat.reduceEqDiff,Nat.reduceLT,Nat.reduceAdd,Nat.reduceLeDiff,Int.reduceBEq,Nat.reduceBEq,reduceCtorEq,(zm3 g5).1,(zm3 g5).2]
 refine EvL.fn (zdF g7) rfl rfl (.cons (.za4 (.cons (.lit _) (.cons (zaa _ _ (fun h=>nomatch h)) (.cons (.lit _) .nil)))) .nil) ?_;obtain⟨r8,g9,h⟩:=bind_some h;try simp only[rnA,Nat.reduceLT]
 refine EvL.fn (zdF g9) rfl rfl (.cons (.za4 (.cons (.lit _) (.cons (zaa _ _ (fun h=>nomatch h)) (.cons (.lit _) .nil)))) .nil) ?_;obtain⟨r10,g11,h⟩:=bind_some h;try simp only[rnA,Nat.reduceEqDiff,Nat.reduceLT,Nat.reduceAdd,Nat.reduceLeDiff,reduceCtorEq]
 refine EvL.fn (zbS g11) rfl rfl (.cons (.za4 (.cons (zaa _ _ (fun h=>nomatch h)) (.cons (zaa _ _ (fun h=>nomatch h)) (.cons (zaa _ _ (fun h=>nomatch h)) .nil)))) (.cons (.za4 (.cons (zaa _ _ (fun h=>nomatch h)) (.cons (zaa _ _ (fun h=>nomatch h)) (.cons (zaa _ _ (fun h=>nomatch h)) .nil)))) .nil)) ?_;obtain⟨r12,g13,h⟩:=bind_some h;try simp only[rnA,Nat.reduceEqDiff,Nat.reduceLT,Nat.reduceAdd,Nat.reduceLeDiff,reduceCtorEq]
 refine EvL.fnS (zcy g13) rfl rfl (.cons (Mzs.agg (.cons (zag _ _ (fun h=>by cases h<;>contradiction)) (.cons (zag _ _ (fun h=>by cases h<;>contradiction)) (.cons (zag _ _ (fun h=>by cases h<;>contradiction)) .nil)))) (.cons (.lit _) .nil)) ⟨⟨(zac _ _),(zac _ _),(zac _ _),qcw⟩,qcw,qcw⟩ ⟨⟨(zac _ _),(zac _ _),(zac _ _),qcw⟩,qcw,qcw⟩ ?_;obtain⟨r14,g15,h⟩:=bind_some h;try simp only[rnA,Nat.reduceEqDiff,Nat.reduceLT,Nat.reduceAdd,Nat.reduceLeDiff,reduceCtorEq]
 refine EvL.fnS (zdh g15) rfl rfl (.cons (Mzs.agg (.cons (zag _ _ (fun h=>by cases h<;>contradiction)) (.cons (zag _ _ (fun h=>by cases h<;>contradiction)) (.cons (zag _ _ (fun h=>by cases h<;>contradiction)) .nil)))) (.cons (.lit _) .nil)) ⟨⟨(zac _ _),(zac _ _),(zac _ _),qcw⟩,qcw,qcw⟩ ⟨⟨(zac _ _),(zac _ _),(zac _ _),qcw⟩,qcw,qcw⟩ ?_;obtain⟨r16,g17,h⟩:=bind_some h;try simp only[rnA,Nat.reduceEqDiff,Nat.reduceLT,Nat.reduceAdd,Nat.reduceLeDiff,reduceCtorEq]
 refine EvL.fn (zdl g17) rfl rfl (.cons (.za4 (.cons (zaa _ _ (fun h=>nomatch h)) (.cons (zaa _ _ (fun h=>nomatch h)) (.cons (zaa _ _ (fun h=>nomatch h)) .nil)))) (.cons (.lit _) (.cons (.lit _) .nil))) ?_;obtain⟨r18,g19,h⟩:=bind_some h;try simp only[rnA,Nat.reduceEqDiff,Nat.reduceLT,Nat.reduceAdd,Nat.reduceLeDiff,reduceCtorEq]
 refine EvL.fnS (zcy g19) rfl rfl (.cons (Mzs.agg (.cons (zag _ _ (fun h=>by cases h<;>contradiction)) (.cons (zag _ _ (fun h=>by cases h<;>contradiction)) (.cons (zag _ _ (fun h=>by cases h<;>contradiction)) .nil)))) (.cons (.lit _) .nil)) ⟨⟨(zac _ _),(zac _ _),(zac _ _),qcw⟩,qcw,qcw⟩ ⟨⟨(zac _ _),(zac _ _),(zac _ _),qcw⟩,qcw,qcw⟩ ?_;obtain⟨r20,g21,h⟩:=bind_some h;try simp only[rnA,Nat.reduceEqDiff,Nat.reduceLT,Nat.reduceAdd,Nat.reduceLeDiff,reduceCtorEq]
 refine EvL.fnS (zdh g21) rfl rfl (.cons (Mzs.agg (.cons (zag _ _ (fun h=>by cases h<;>contradiction)) (.cons (zag _ _ (fun h=>by cases h<;>contradiction)) (.cons (zag _ _ (fun h=>by cases h<;>contradiction)) .nil)))) (.cons (.lit _) .nil)) ⟨⟨(zac _ _),(zac _ _),(zac _ _),qcw⟩,qcw,qcw⟩ ⟨⟨(zac _ _),(zac _ _),(zac _ _),qcw⟩,qcw,qcw⟩ ?_;obtain⟨r22,g23,h⟩:=bind_some h;try simp only[rnA,Nat.reduceEqDiff,Nat.reduceLT,Nat.reduceAdd,Nat.reduceLeDiff,reduceCtorEq]
 refine EvL.fn (zdl g23) rfl rfl (.cons (.za4 (.cons (zaa _ _ (fun h=>nomatch h)) (.cons (zaa _ _ (fun h=>nomatch h)) (.cons (zaa _ _ (fun h=>nomatch h)) .nil)))) (.cons (.lit _) (.cons (.lit _) .nil))) ?_;try simp only[rnA,Nat.reduceEqDiff,Nat.reduceLT,Nat.reduceAdd,Nat.reduceLeDiff,reduceCtorEq]
 obtain⟨o1,j1,h⟩:=bind_some h;obtain⟨T1,hT1⟩:=mkT fun a:Bool=>⟨145,[(6,(dB a))],[]⟩
 refine EvL.jn T1 (fun a=>a=o1) ?_ ?_
 ·refine zab ?_;try simp only[rnA,Nat.reduceEqDiff,Nat.reduceLT,reduceCtorEq]
  cases c24:(r10.2 == 0)
  ·rw[c24,cond_false]at j1;try simp only[rnA,Nat.reduceEqDiff,Nat.reduceLT,reduceCtorEq]
   refine EvL.skip rfl ?_;try simp only[rnA,Nat.reduceLT]
   refine EvL.skip rfl ?_;try simp only[rnA,Nat.reduceEqDiff,Nat.reduceLT,reduceCtorEq]
   refine EvL.skip rfl ?_;try simp only[rnA,Nat.reduceEqDiff,Nat.reduceLT,reduceCtorEq]
   refine EvL.skip rfl ?_;try simp only[rnA,Nat.reduceLT]
   refine EvL.skip rfl ?_;try simp only[rnA,Nat.reduceEqDiff,Nat.reduceLT,reduceCtorEq]
   refine EvL.skip rfl ?_;try simp only[rnA,Nat.reduceEqDiff,Nat.reduceLT,reduceCtorEq]
   refine EvL.skip rfl ?_;try simp only[rnA,Nat.reduceLT]
   refine EvL.skip rfl ?_;try simp only[rnA,Nat.reduceEqDiff,Nat.reduceLT,reduceCtorEq]
   refine EvL.skip rfl ?_;try simp only[rnA,Nat.reduceEqDiff,Nat.reduceLT,reduceCtorEq]
   replace j1:=qac j1; subst j1;exact lfj hT1 rfl (wm0 [] (by exact trivial))
  rw[c24,cond_true]at j1;try simp only[rnA,Nat.reduceEqDiff,Nat.reduceLT,reduceCtorEq]
  cases c25:(r12.2 == 0)
  ·rw[c25,cond_false]at j1;try simp only[rnA,Nat.reduceEqDiff,Nat.reduceLT,reduceCtorEq]
   refine EvL.skip rfl ?_;try simp only[rnA,Nat.reduceLT]
   refine EvL.skip rfl ?_;try simp only[rnA,Nat.reduceEqDiff,Nat.reduceLT,reduceCtorEq]
   refine EvL.skip rfl ?_;try simp only[rnA,Nat.reduceEqDiff,Nat.reduceLT,reduceCtorEq]
   refine EvL.skip rfl ?_;try simp only[rnA,Nat.reduceLT]
   refine EvL.skip rfl ?_;try simp only[rnA,Nat.reduceEqDiff,Nat.reduceLT,reduceCtorEq]
   refine EvL.skip rfl ?_;try simp only[rnA,Nat.reduceEqDiff,Nat.reduceLT,reduceCtorEq]
   refine EvL.skip rfl ?_;try simp only[rnA,Nat.reduceLT]
   refine EvL.skip rfl ?_;try simp only[rnA,Nat.reduceEqDiff,Nat.reduceLT,reduceCtorEq]
   refine EvL.skip rfl ?_;try simp only[rnA,Nat.reduceEqDiff,Nat.reduceLT,reduceCtorEq]
   replace j1:=qac j1; subst j1;exact lfj hT1 rfl (wm0 [] (by exact trivial))
  rw[c25,cond_true]at j1;try simp only[rnA,Nat.reduceEqDiff,Nat.reduceLT,reduceCtorEq]
  cases c26:(r14.2 == 0)
  ·rw[c26,cond_false]at j1;try simp only[rnA,Nat.reduceEqDiff,Nat.reduceLT,reduceCtorEq]
   refine EvL.skip rfl ?_;try simp only[rnA,Nat.reduceLT]
   refine EvL.skip rfl ?_;try simp only[rnA,Nat.reduceEqDiff,Nat.reduceLT,reduceCtorEq]
   refine EvL.skip rfl ?_;try simp only[rnA,Nat.reduceEqDiff,Nat.reduceLT,reduceCtorEq]
   refine EvL.skip rfl ?_;try simp only[rnA,Nat.reduceLT]
   refine EvL.skip rfl ?_;try simp only[rnA,Nat.reduceEqDiff,Nat.reduceLT,reduceCtorEq]
   refine EvL.skip rfl ?_;try simp only[rnA,Nat.reduceEqDiff,Nat.reduceLT,reduceCtorEq]
   refine EvL.skip rfl ?_;try simp only[rnA,Nat.reduceLT]
   refine EvL.skip rfl ?_;try simp only[rnA,Nat.reduceEqDiff,Nat.reduceLT,reduceCtorEq]
   refine EvL.skip rfl ?_;try simp only[rnA,Nat.reduceEqDiff,Nat.reduceLT,reduceCtorEq]
   replace j1:=qac j1; subst j1;exact lfj hT1 rfl (wm0 [] (by exact trivial))
  rw[c26,cond_true]at j1;try simp only[rnA,Nat.reduceEqDiff,Nat.reduceLT,reduceCtorEq]
  cases c27:(r16.2 == 0)
  ·rw[c27,cond_false]at j1;try simp only[rnA,Nat.reduceEqDiff,Nat.reduceLT,reduceCtorEq]
   refine EvL.skip rfl ?_;try simp only[rnA,Nat.reduceLT]
   refine EvL.skip rfl ?_;try simp only[rnA,Nat.reduceEqDiff,Nat.reduceLT,reduceCtorEq]
   refine EvL.skip rfl ?_;try simp only[rnA,Nat.reduceEqDiff,Nat.reduceLT,reduceCtorEq]
   refine EvL.skip rfl ?_;try simp only[rnA,Nat.reduceLT]
   refine EvL.skip rfl ?_;try simp only[rnA,Nat.reduceEqDiff,Nat.reduceLT,reduceCtorEq]
   refine EvL.skip rfl ?_;try simp only[rnA,Nat.reduceEqDiff,Nat.reduceLT,reduceCtorEq]
   refine EvL.skip rfl ?_;try simp only[rnA,Nat.reduceLT]
   refine EvL.skip rfl ?_;try simp only[rnA,Nat.reduceEqDiff,Nat.reduceLT,reduceCtorEq]
   refine EvL.skip rfl ?_;try simp only[rnA,Nat.reduceEqDiff,Nat.reduceLT,reduceCtorEq]
   replace j1:=qac j1; subst j1;exact lfj hT1 rfl (wm0 [] (by exact trivial))
  rw[c27,cond_true]at j1;try simp only[rnA,Nat.reduceEqDiff,Nat.reduceLT,reduceCtorEq]
  cases c28:(r18.2 == 0)
  ·rw[c28,cond_false]at j1;try simp only[rnA,Nat.reduceEqDiff,Nat.reduceLT,reduceCtorEq]
   refine EvL.skip rfl ?_;try simp only[rnA,Nat.reduceLT]
   refine EvL.skip rfl ?_;try simp only[rnA,Nat.reduceEqDiff,Nat.reduceLT,reduceCtorEq]
   refine EvL.skip rfl ?_;try simp only[rnA,Nat.reduceEqDiff,Nat.reduceLT,reduceCtorEq]
   refine EvL.skip rfl ?_;try simp only[rnA,Nat.reduceLT]
   refine EvL.skip rfl ?_;try simp only[rnA,Nat.reduceEqDiff,Nat.reduceLT,reduceCtorEq]
   refine EvL.skip rfl ?_;try simp only[rnA,Nat.reduceEqDiff,Nat.reduceLT,reduceCtorEq]
   refine EvL.skip rfl ?_;try simp only[rnA,Nat.reduceLT]
   refine EvL.skip rfl ?_;try simp only[rnA,Nat.reduceEqDiff,Nat.reduceLT,reduceCtorEq]
   refine EvL.skip rfl ?_;try simp only[rnA,Nat.reduceEqDiff,Nat.reduceLT,reduceCtorEq]
   replace j1:=qac j1; subst j1;exact lfj hT1 rfl (wm0 [] (by exact trivial))
  rw[c28,cond_true]at j1;try simp only[rnA,Nat.reduceEqDiff,Nat.reduceLT,reduceCtorEq]
  cases c29:(r20.2 == 0)
  ·rw[c29,cond_false]at j1;try simp only[rnA,Nat.reduceEqDiff,Nat.reduceLT,reduceCtorEq]
   refine EvL.skip rfl ?_;try simp only[rnA,Nat.reduceLT]
   refine EvL.skip rfl ?_;try simp only[rnA,Nat.reduceEqDiff,Nat.reduceLT,reduceCtorEq]
   refine EvL.skip rfl ?_;try simp only[rnA,Nat.reduceEqDiff,Nat.reduceLT,reduceCtorEq]
   refine EvL.skip rfl ?_;try simp only[rnA,Nat.reduceLT]
   refine EvL.skip rfl ?_;try simp only[rnA,Nat.reduceEqDiff,Nat.reduceLT,reduceCtorEq]
   refine EvL.skip rfl ?_;try simp only[rnA,Nat.reduceEqDiff,Nat.reduceLT,reduceCtorEq]
   refine EvL.skip rfl ?_;try simp only[rnA,Nat.reduceLT]
   refine EvL.skip rfl ?_;try simp only[rnA,Nat.reduceEqDiff,Nat.reduceLT,reduceCtorEq]
   refine EvL.skip rfl ?_;try simp only[rnA,Nat.reduceEqDiff,Nat.reduceLT,reduceCtorEq]
   replace j1:=qac j1; subst j1;exact lfj hT1 rfl (wm0 [] (by exact trivial))
  rw[c29,cond_true]at j1;try simp only[rnA,Nat.reduceEqDiff,Nat.reduceLT,reduceCtorEq]
  cases c30:(r22.2 == 0)
  ·rw[c30,cond_false]at j1;try simp only[rnA,Nat.reduceEqDiff,Nat.reduceLT,reduceCtorEq]
   refine EvL.skip rfl ?_;try simp only[rnA,Nat.reduceLT]
   refine EvL.skip rfl ?_;try simp only[rnA,Nat.reduceEqDiff,Nat.reduceLT,reduceCtorEq]
   refine EvL.skip rfl ?_;try simp only[rnA,Nat.reduceEqDiff,Nat.reduceLT,reduceCtorEq]
   refine EvL.skip rfl ?_;try simp only[rnA,Nat.reduceLT]
   refine EvL.skip rfl ?_;try simp only[rnA,Nat.reduceEqDiff,Nat.reduceLT,reduceCtorEq]
   refine EvL.skip rfl ?_;try simp only[rnA,Nat.reduceEqDiff,Nat.reduceLT,reduceCtorEq]
   refine EvL.skip rfl ?_;try simp only[rnA,Nat.reduceLT]
   refine EvL.skip rfl ?_;try simp only[rnA,Nat.reduceEqDiff,Nat.reduceLT,reduceCtorEq]
   refine EvL.skip rfl ?_;try simp only[rnA,Nat.reduceEqDiff,Nat.reduceLT,reduceCtorEq]
   replace j1:=qac j1; subst j1;exact lfj hT1 rfl (wm0 [] (by exact trivial))
  rw[c30,cond_true]at j1;obtain⟨r31,g32,j1⟩:=bind_some j1;try simp only[rnA,Nat.reduceEqDiff,Nat.reduceLT,Nat.reduceAdd,Nat.reduceLeDiff,reduceCtorEq]
  refine EvL.fnS (zca g32) rfl rfl (.cons (Mzs.agg (.cons (zag _ _ (fun h=>by cases h<;>contradiction)) (.cons (zag _ _ (fun h=>by cases h<;>contradiction)) (.cons (zag _ _ (fun h=>by cases h<;>contradiction)) .nil)))) .nil) ⟨⟨(zac _ _),(zac _ _),(zac _ _),qcw⟩,qcw⟩ ⟨qcw,⟨⟨rfl,zal.fr _⟩,qcw⟩⟩ ?_;obtain⟨r33,g34,j1⟩:=bind_some j1;try simp only[rnA,Nat.reduceLT,zaf]
  refine EvL.fn (zbS g34) rfl rfl (.cons (.za4 (.cons (zaa _ _ (fun h=>nomatch h)) (.cons (zaa _ _ (fun h=>nomatch h)) (.cons (zaa _ _ (fun h=>nomatch h)) .nil)))) (.cons (.za4 (.cons (zaa _ _ (fun h=>nomatch h)) (.cons (zaa _ _ (fun h=>nomatch h)) (.cons (zaa _ _ (fun h=>nomatch h)) .nil)))) .nil)) ?_;obtain⟨r35,g36,j1⟩:=bind_some j1;try simp only[rnA,Nat.reduceEqDiff,Nat.reduceLT,reduceCtorEq]
  refine EvL.fnv rfl rfl (zbn g36) rfl (.cons (.za4 (.cons (zaa _ _ (fun h=>nomatch h)) (.cons (zaa _ _ (fun h=>nomatch h)) (.cons (zaa _ _ (fun h=>nomatch h)) .nil)))) (.cons (.lit _) (.cons (.fptr (fun h=>nomatch h) rfl (zal.snp (t:=false) (t':=false) r31 (fun h=>nomatch h)).get) .nil))) ?_;try simp only[rnA,Nat.reduceEqDiff,Nat.reduceLT,reduceCtorEq]
  cases c37:r35
  ·rw[c37,cond_false]at j1;try simp only[rnA,Nat.reduceEqDiff,Nat.reduceLT,reduceCtorEq]
   refine EvL.skip rfl ?_;try simp only[rnA,Nat.reduceLT]
   refine EvL.skip rfl ?_;try simp only[rnA,Nat.reduceEqDiff,Nat.reduceLT,reduceCtorEq]
   refine EvL.skip rfl ?_;try simp only[rnA,Nat.reduceEqDiff,Nat.reduceLT,reduceCtorEq]
   refine EvL.skip rfl ?_;try simp only[rnA,Nat.reduceLT]
   refine EvL.skip rfl ?_;try simp only[rnA,Nat.reduceEqDiff,Nat.reduceLT,reduceCtorEq]
   refine EvL.skip rfl ?_;try simp only[rnA,Nat.reduceEqDiff,Nat.reduceLT,reduceCtorEq]
   replace j1:=qac j1; subst j1;exact lfj hT1 rfl (wm0 [] (by exact trivial))
  rw[c37,cond_true]at j1;obtain⟨r38,g39,j1⟩:=bind_some j1;try simp only[rnA,Nat.reduceEqDiff,Nat.reduceLT,Nat.reduceAdd,Nat.reduceLeDiff,reduceCtorEq]
  refine EvL.fnS (zca g39) rfl rfl (.cons (Mzs.agg (.cons (zag _ _ (fun h=>by cases h<;>contradiction)) (.cons (zag _ _ (fun h=>by cases h<;>contradiction)) (.cons (zag _ _ (fun h=>by cases h<;>contradiction)) .nil)))) .nil) ⟨⟨(zac _ _),(zac _ _),(zac _ _),qcw⟩,qcw⟩ ⟨qcw,⟨⟨rfl,zal.fr _⟩,qcw⟩⟩ ?_;obtain⟨r40,g41,j1⟩:=bind_some j1;try simp only[rnA,Nat.reduceLT,zaf]
  refine EvL.fn (zbS g41) rfl rfl (.cons (.za4 (.cons (zaa _ _ (fun h=>nomatch h)) (.cons (zaa _ _ (fun h=>nomatch h)) (.cons (zaa _ _ (fun h=>nomatch h)) .nil)))) (.cons (.za4 (.cons (zaa _ _ (fun h=>nomatch h)) (.cons (zaa _ _ (fun h=>nomatch h)) (.cons (zaa _ _ (fun h=>nomatch h)) .nil)))) .nil)) ?_;obtain⟨r42,g43,j1⟩:=bind_some j1;try simp only[rnA,Nat.reduceEqDiff,Nat.reduceLT,reduceCtorEq]
  refine EvL.fnv rfl rfl (zbn g43) rfl (.cons (.za4 (.cons (zaa _ _ (fun h=>nomatch h)) (.cons (zaa _ _ (fun h=>nomatch h)) (.cons (zaa _ _ (fun h=>nomatch h)) .nil)))) (.cons (.lit _) (.cons (.fptr (fun h=>nomatch h) rfl (zal.snp (t:=false) (t':=false) r38 (fun h=>nomatch h)).get) .nil))) ?_;try simp only[rnA,Nat.reduceEqDiff,Nat.reduceLT,reduceCtorEq]
  cases c44:r42
  ·rw[c44,cond_false]at j1;try simp only[rnA,Nat.reduceEqDiff,Nat.reduceLT,reduceCtorEq]
   refine EvL.skip rfl ?_;try simp only[rnA,Nat.reduceLT]
   refine EvL.skip rfl ?_;try simp only[rnA,Nat.reduceEqDiff,Nat.reduceLT,reduceCtorEq]
   refine EvL.skip rfl ?_;try simp only[rnA,Nat.reduceEqDiff,Nat.reduceLT,reduceCtorEq]
   replace j1:=qac j1; subst j1;exact lfj hT1 rfl (wm0 [] (by exact trivial))
  rw[c44,cond_true]at j1;obtain⟨r45,g46,j1⟩:=bind_some j1;try simp only[rnA,Nat.reduceEqDiff,Nat.reduceLT,Nat.reduceAdd,Nat.reduceLeDiff,reduceCtorEq]
  refine EvL.fnS (zca g46) rfl rfl (.cons (Mzs.agg (.cons (zag _ _ (fun h=>by cases h<;>contradiction)) (.cons (zag _ _ (fun h=>by cases h<;>contradiction)) (.cons (zag _ _ (fun h=>by cases h<;>contradiction)) .nil)))) .nil) ⟨⟨(zac _ _),(zac _ _),(zac _ _),qcw⟩,qcw⟩ ⟨qcw,⟨⟨rfl,zal.fr _⟩,qcw⟩⟩ ?_;obtain⟨r47,g48,j1⟩:=bind_some j1;try simp only[rnA,Nat.reduceLT,zaf]
  refine EvL.fn (zbS g48) rfl rfl (.cons (.za4 (.cons (zaa _ _ (fun h=>nomatch h)) (.cons (zaa _ _ (fun h=>nomatch h)) (.cons (zaa _ _ (fun h=>nomatch h)) .nil)))) (.cons (.za4 (.cons (zaa _ _ (fun h=>nomatch h)) (.cons (zaa _ _ (fun h=>nomatch h)) (.cons (zaa _ _ (fun h=>nomatch h)) .nil)))) .nil)) ?_;obtain⟨r49,g50,j1⟩:=bind_some j1;try simp only[rnA,Nat.reduceEqDiff,Nat.reduceLT,reduceCtorEq]
  refine EvL.fnv rfl rfl (zbn g50) rfl (.cons (.za4 (.cons (zaa _ _ (fun h=>nomatch h)) (.cons (zaa _ _ (fun h=>nomatch h)) (.cons (zaa _ _ (fun h=>nomatch h)) .nil)))) (.cons (.lit _) (.cons (.fptr (fun h=>nomatch h) rfl (zal.snp (t:=false) (t':=false) r45 (fun h=>nomatch h)).get) .nil))) ?_;try simp only[rnA,Nat.reduceEqDiff,Nat.reduceLT,reduceCtorEq]
  replace j1:=qac j1; subst j1;exact lfj hT1 rfl (wm0 [] (by exact trivial))
 rintro v6 rfl;rw[congrFun hT1 v6];refine zab ?_;try simp only[rnA]
 replace h:=qac h; subst h;exact zcR.ret rfl (.lit _)
end Go.Dc
