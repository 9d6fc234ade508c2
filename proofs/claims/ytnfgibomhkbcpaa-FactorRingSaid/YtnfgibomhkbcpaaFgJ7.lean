/-
 What l03_FactorKeeps computes. Conditions: none.
-/
import Derived.Test.YtnfgibomhkbcpaaFgJ6
set_option linter.unusedSimpArgs false
set_option linter.unusedVariables false
set_option maxRecDepth 100000
set_option maxHeartbeats 4000000
namespace Go.Dc
open Go Go.Mx Go.Lx Go.Proofs
def zcj(N:Nat)(p0:S_haruspexref03_Draft)(p1:S_haruspexref03_Draft)(p2:S_haruspexref03_Draft):Option Bool:=
(zcQ).bind fun r1=>
bif r1 then(
(zaC N (S_haruspexref03_Draft.mk p0.which p0.n false)).bind fun r4=>
(zaC N (S_haruspexref03_Draft.mk p1.which p1.n false)).bind fun r6=>
(zaC N (S_haruspexref03_Draft.mk p2.which p2.n false)).bind fun r8=>
(zau r4 r6).bind fun r10=>
(zau r6 r8).bind fun r12=>
(zau r10.1 r8).bind fun r14=>
((bif (r10.2 == 0)then(
bif (r12.2 == 0)then(
bif (r14.2 == 0)then(
(zbY r10.1).bind fun r19=>
(zau r6 r4).bind fun r21=>
(zaI r21.1 r21.2 r19).bind fun r23=>
bif r23 then(
(zbY r14.1).bind fun r26=>
(zau r4 r12.1).bind fun r28=>
(zaI r28.1 r28.2 r26).bind fun r30=>
bif r30 then(
(zbY r4).bind fun r33=>
(zcr).bind fun r35=>
(zau r4 r35).bind fun r37=>
(zaI r37.1 r37.2 r33).bind fun r39=>
bif r39 then(
(zbY r4).bind fun r42=>
(zcr).bind fun r44=>
(zau r44 r4).bind fun r46=>
(zaI r46.1 r46.2 r42).bind fun r48=>
some r48)
else(
some false))
else(
some false))
else(
some false))
else(
some false))
else(
some false))
else(
some false):Option Bool)).bind fun v6=>
some v6)
else(
some false)
def zed:C:=
 .seq (rg [oW 3 0,
 oW 4 1,
 oW 5 2,
 oJ 6 false])
 (.seq (.seq (rg [⟨some 16,.call 20 [],none⟩,
 ⟨some 17,.un .not (.s 16),none⟩])
 (.cond (.s 17) (.seq (rg [oJ 6 false])
 (.ret))
 (.skip)))
 (.seq (rg [oF 18 2 3,
 ⟨none,.store 1 (.s 18) (.c (.bool false)),none⟩,
 oF 19 2 4,
 ⟨none,.store 1 (.s 19) (.c (.bool false)),none⟩,
 oF 20 2 5,
 ⟨none,.store 1 (.s 20) (.c (.bool false)),none⟩])
 (.seq (.reg true true [oN 21 3 3,
 oN 23 3 4,
 oN 25 3 5,
 oU 22 22 21,
 oU 24 22 23,
 oU 26 22 25,
 ⟨some 7,.alloc [(.slice none 0 0),(.slice none 0 0),(.slice none 0 0)],none⟩,
 ⟨some 8,.alloc [(.slice none 0 0),(.slice none 0 0),(.slice none 0 0)],none⟩,
 ⟨some 9,.alloc [(.slice none 0 0),(.slice none 0 0),(.slice none 0 0)],none⟩,
 oS 3 7 22,
 oS 3 8 24,
 oS 3 9 26])
 (.seq (rg [oN 28 3 7,
 oN 29 3 8,
 oV 30 25 28 29,
 oM 27 30,
 oX 31 27 0,
 oX 32 27 1,
 ⟨some 10,.alloc [(.slice none 0 0),(.slice none 0 0),(.slice none 0 0)],none⟩,
 oS 3 10 31,
 oM 11 32])
 (.seq (rg [oN 34 3 8,
 oN 35 3 9,
 oV 36 25 34 35,
 oM 33 36,
 oX 37 33 0,
 oX 38 33 1,
 ⟨some 12,.alloc [(.slice none 0 0),(.slice none 0 0),(.slice none 0 0)],none⟩,
 oS 3 12 37,
 oM 13 38])
 (.seq (rg [oN 40 3 10,
 oN 41 3 9,
 oV 42 25 40 41,
 oM 39 42,
 oX 43 39 0,
 oX 44 39 1,
 ⟨some 14,.alloc [(.slice none 0 0),(.slice none 0 0),(.slice none 0 0)],none⟩,
 oS 3 14 43,
 oM 15 44])
 (.seq (.scope (.reg true true [oM 45 11,
 oD 46 .eql 45 0,
 oM 47 46,
 oMg 48 13 47 true,
 oDg 49 .eql 48 0 47 true,
 ⟨some 50,.pick (.s 47) (.s 49) (.c (.bool false)),none⟩,
 oM 51 50,
 oMg 52 15 51 true,
 oDg 53 .eql 52 0 51 true,
 ⟨some 54,.pick (.s 51) (.s 53) (.c (.bool false)),none⟩,
 oM 55 54,
 ⟨some 56,.load (some 3) (.s 10),some (55,true)⟩,
 ⟨some 58,.load (some 3) (.s 8),some (55,true)⟩,
 ⟨some 59,.load (some 3) (.s 7),some (55,true)⟩,
 ⟨some 57,.call 44 [(.s 56)],some (55,true)⟩,
 ⟨some 60,.call 25 [(.s 58),(.s 59)],some (55,true)⟩,
 ⟨some 61,.ext (.s 60) 0,some (55,true)⟩,
 ⟨some 62,.ext (.s 60) 1,some (55,true)⟩,
 ⟨some 63,.zbF (.s 57) [(.s 61),(.s 62)],some (55,true)⟩,
 ⟨some 64,.pick (.s 55) (.s 63) (.c (.bool false)),none⟩,
 oM 65 64,
 ⟨some 66,.load (some 3) (.s 14),some (65,true)⟩,
 ⟨some 68,.load (some 3) (.s 7),some (65,true)⟩,
 ⟨some 69,.load (some 3) (.s 12),some (65,true)⟩,
 ⟨some 67,.call 44 [(.s 66)],some (65,true)⟩,
 ⟨some 70,.call 25 [(.s 68),(.s 69)],some (65,true)⟩,
 ⟨some 71,.ext (.s 70) 0,some (65,true)⟩,
 ⟨some 72,.ext (.s 70) 1,some (65,true)⟩,
 ⟨some 73,.zbF (.s 67) [(.s 71),(.s 72)],some (65,true)⟩,
 ⟨some 74,.pick (.s 65) (.s 73) (.c (.bool false)),none⟩,
 oM 75 74,
 ⟨some 76,.load (some 3) (.s 7),some (75,true)⟩,
 ⟨some 78,.load (some 3) (.s 7),some (75,true)⟩,
 ⟨some 77,.call 44 [(.s 76)],some (75,true)⟩,
 ⟨some 79,.call 45 [],some (75,true)⟩,
 ⟨some 80,.call 25 [(.s 78),(.s 79)],some (75,true)⟩,
 ⟨some 81,.ext (.s 80) 0,some (75,true)⟩,
 ⟨some 82,.ext (.s 80) 1,some (75,true)⟩,
 ⟨some 83,.zbF (.s 77) [(.s 81),(.s 82)],some (75,true)⟩,
 ⟨some 84,.pick (.s 75) (.s 83) (.c (.bool false)),none⟩,
 oM 85 84,
 ⟨some 86,.load (some 3) (.s 7),some (85,true)⟩,
 ⟨some 89,.load (some 3) (.s 7),some (85,true)⟩,
 ⟨some 87,.call 44 [(.s 86)],some (85,true)⟩,
 ⟨some 88,.call 45 [],some (85,true)⟩,
 ⟨some 90,.call 25 [(.s 88),(.s 89)],some (85,true)⟩,
 ⟨some 91,.ext (.s 90) 0,some (85,true)⟩,
 ⟨some 92,.ext (.s 90) 1,some (85,true)⟩,
 ⟨some 93,.zbF (.s 87) [(.s 91),(.s 92)],some (85,true)⟩,
 ⟨some 94,.pick (.s 85) (.s 93) (.c (.bool false)),none⟩,
 oM 6 94]))
 (.ret))))))))
theorem zfC:zgu mC 7=some (95,zed,[.tmp 6],false):=za5 (by kernel_rfl)
theorem zf5{N:Nat}{p0:S_haruspexref03_Draft}{p1:S_haruspexref03_Draft}{p2:S_haruspexref03_Draft}{r:Bool}(h:zcj N p0 p1 p2=some r):Lx.Fn mC 7 [(.agg [(dU8 p0.which),(fzE false (eI .u8) p0.n),(dB p0.large)]),(.agg [(dU8 p1.which),(fzE false (eI .u8) p1.n),(dB p1.large)]),(.agg [(dU8 p2.which),(fzE false (eI .u8) p2.n),(dB p2.large)])] (dB r):=by
 refine Fn.of zfC (zaW rfl) (qac rfl) ?_;unfold zcj at h;simp only[zed,zkp];refine zab ?_;obtain⟨r1,g2,h⟩:=bind_some h;try simp only[rnA,Nat.reduceEqDiff,Nat.reduceLT,Nat.reduceAdd,reduceCtorEq]
 refine EvL.fn (zjg g2) rfl rfl .nil ?_;try simp only[rnA,Nat.reduceEqDiff,Nat.reduceLT,reduceCtorEq]
 cases c3:r1
 ·rw[c3,cond_false]at h;try simp only[rnA,Nat.reduceLT]
  replace h:=qab h; subst h;exact zcH.ret rfl (.lit _)
 rw[c3,cond_true]at h;obtain⟨r4,g5,h⟩:=bind_some h;try simp only[rnA,Nat.reduceEqDiff,Nat.reduceLT,Nat.reduceAdd,Nat.reduceLeDiff,reduceCtorEq]
 refine EvL.fn (zcm g5) rfl rfl (.cons (.zaS (.cons (.lit _) (.cons (zaa _ _ (fun h=>nomatch h)) (.cons (.lit _) .nil)))) .nil) ?_;obtain⟨r6,g7,h⟩:=bind_some h;try simp only[rnA,Nat.reduceLT]
 refine EvL.fn (zcm g7) rfl rfl (.cons (.zaS (.cons (.lit _) (.cons (zaa _ _ (fun h=>nomatch h)) (.cons (.lit _) .nil)))) .nil) ?_;obtain⟨r8,g9,h⟩:=bind_some h;try simp only[rnA,Nat.reduceLT]
 refine EvL.fn (zcm g9) rfl rfl (.cons (.zaS (.cons (.lit _) (.cons (zaa _ _ (fun h=>nomatch h)) (.cons (.lit _) .nil)))) .nil) ?_;obtain⟨r10,g11,h⟩:=bind_some h;try simp only[rnA,Nat.reduceEqDiff,Nat.reduceLT,Nat.reduceAdd,Nat.reduceLeDiff,reduceCtorEq]
 refine EvL.fn (za0 g11) rfl rfl (.cons (.zaS (.cons (zaa _ _ (fun h=>nomatch h)) (.cons (zaa _ _ (fun h=>nomatch h)) (.cons (zaa _ _ (fun h=>nomatch h)) .nil)))) (.cons (.zaS (.cons (zaa _ _ (fun h=>nomatch h)) (.cons (zaa _ _ (fun h=>nomatch h)) (.cons (zaa _ _ (fun h=>nomatch h)) .nil)))) .nil)) ?_;obtain⟨r12,g13,h⟩:=bind_some h;try simp only[rnA,Nat.reduceEqDiff,Nat.reduceLT,Nat.reduceAdd,Nat.reduceLeDiff,reduceCtorEq]
 refine EvL.fn (za0 g13) rfl rfl (.cons (.zaS (.cons (zaa _ _ (fun h=>nomatch h)) (.cons (zaa _ _ (fun h=>nomatch h)) (.cons (zaa _ _ (fun h=>nomatch h)) .nil)))) (.cons (.zaS (.cons (zaa _ _ (fun h=>nomatch h)) (.cons (zaa _ _ (fun h=>nomatch h)) (.cons (zaa _ _ (fun h=>nomatch h)) .nil)))) .nil)) ?_;obtain⟨r14,g15,h⟩:=bind_some h;try simp only[rnA,Nat.reduceEqDiff,Nat.reduceLT,Nat.reduceAdd,Nat.reduceLeDiff,reduceCtorEq]
 refine EvL.fn (za0 g15) rfl rfl (.cons (.zaS (.cons (zaa _ _ (fun h=>nomatch h)) (.cons (zaa _ _ (fun h=>nomatch h)) (.cons (zaa _ _ (fun h=>nomatch h)) .nil)))) (.cons (.zaS (.cons (zaa _ _ (fun h=>nomatch h)) (.cons (zaa _ _ (fun h=>nomatch h)) (.cons (zaa _ _ (fun h=>nomatch h)) .nil)))) .nil)) ?_;try simp only[rnA,Nat.reduceEqDiff,Nat.reduceLT,Nat.reduceAdd,Nat.reduceLeDiff,reduceCtorEq]
 obtain⟨o1,j1,h⟩:=bind_some h;obtain⟨T1,hT1⟩:=mkT fun a:Bool=>⟨95,[(6,(dB a))],[]⟩
 refine EvL.jn T1 (fun a=>a=o1) ?_ ?_
 ·refine zab ?_;try simp only[rnA,Nat.reduceEqDiff,Nat.reduceLT,reduceCtorEq]
  cases c16:(r10.2 == 0)
  ·rw[c16,cond_false]at j1;try simp only[rnA,Nat.reduceEqDiff,Nat.reduceLT,reduceCtorEq]
   refine EvL.skip rfl ?_;try simp only[rnA,Nat.reduceLT]
   refine EvL.skip rfl ?_;try simp only[rnA,Nat.reduceEqDiff,Nat.reduceLT,reduceCtorEq]
   refine EvL.skip rfl ?_;try simp only[rnA,Nat.reduceEqDiff,Nat.reduceLT,reduceCtorEq]
   refine EvL.skip rfl ?_;try simp only[rnA,Nat.reduceLT]
   refine EvL.skip rfl ?_;try simp only[rnA,Nat.reduceEqDiff,Nat.reduceLT,reduceCtorEq]
   refine EvL.skip rfl ?_;try simp only[rnA,Nat.reduceEqDiff,Nat.reduceLT,reduceCtorEq]
   refine EvL.skip rfl ?_;try simp only[rnA,Nat.reduceLT]
   refine EvL.skip rfl ?_;try simp only[rnA,Nat.reduceLT]
   refine EvL.skip rfl ?_;try simp only[rnA,Nat.reduceEqDiff,Nat.reduceLT,reduceCtorEq]
   refine EvL.skip rfl ?_;try simp only[rnA,Nat.reduceEqDiff,Nat.reduceLT,reduceCtorEq]
   refine EvL.skip rfl ?_;try simp only[rnA,Nat.reduceLT]
   refine EvL.skip rfl ?_;try simp only[rnA,Nat.reduceLT]
   refine EvL.skip rfl ?_;try simp only[rnA,Nat.reduceEqDiff,Nat.reduceLT,reduceCtorEq]
   refine EvL.skip rfl ?_;try simp only[rnA,Nat.reduceEqDiff,Nat.reduceLT,reduceCtorEq]
   replace j1:=qab j1; subst j1;exact lfj hT1 rfl (wm0 [] (by exact trivial))
  rw[c16,cond_true]at j1;try simp only[rnA,Nat.reduceEqDiff,Nat.reduceLT,reduceCtorEq]
  cases c17:(r12.2 == 0)
  ·rw[c17,cond_false]at j1;try simp only[rnA,Nat.reduceEqDiff,Nat.reduceLT,reduceCtorEq]
   refine EvL.skip rfl ?_;try simp only[rnA,Nat.reduceLT]
   refine EvL.skip rfl ?_;try simp only[rnA,Nat.reduceEqDiff,Nat.reduceLT,reduceCtorEq]
   refine EvL.skip rfl ?_;try simp only[rnA,Nat.reduceEqDiff,Nat.reduceLT,reduceCtorEq]
   refine EvL.skip rfl ?_;try simp only[rnA,Nat.reduceLT]
   refine EvL.skip rfl ?_;try simp only[rnA,Nat.reduceEqDiff,Nat.reduceLT,reduceCtorEq]
   refine EvL.skip rfl ?_;try simp only[rnA,Nat.reduceEqDiff,Nat.reduceLT,reduceCtorEq]
   refine EvL.skip rfl ?_;try simp only[rnA,Nat.reduceLT]
   refine EvL.skip rfl ?_;try simp only[rnA,Nat.reduceLT]
   refine EvL.skip rfl ?_;try simp only[rnA,Nat.reduceEqDiff,Nat.reduceLT,reduceCtorEq]
   refine EvL.skip rfl ?_;try simp only[rnA,Nat.reduceEqDiff,Nat.reduceLT,reduceCtorEq]
   refine EvL.skip rfl ?_;try simp only[rnA,Nat.reduceLT]
   refine EvL.skip rfl ?_;try simp only[rnA,Nat.reduceLT]
   refine EvL.skip rfl ?_;try simp only[rnA,Nat.reduceEqDiff,Nat.reduceLT,reduceCtorEq]
   refine EvL.skip rfl ?_;try simp only[rnA,Nat.reduceEqDiff,Nat.reduceLT,reduceCtorEq]
   replace j1:=qab j1; subst j1;exact lfj hT1 rfl (wm0 [] (by exact trivial))
  rw[c17,cond_true]at j1;try simp only[rnA,Nat.reduceEqDiff,Nat.reduceLT,reduceCtorEq]
  cases c18:(r14.2 == 0)
  ·rw[c18,cond_false]at j1;try simp only[rnA,Nat.reduceEqDiff,Nat.reduceLT,reduceCtorEq]
   refine EvL.skip rfl ?_;try simp only[rnA,Nat.reduceLT]
   refine EvL.skip rfl ?_;try simp only[rnA,Nat.reduceEqDiff,Nat.reduceLT,reduceCtorEq]
   refine EvL.skip rfl ?_;try simp only[rnA,Nat.reduceEqDiff,Nat.reduceLT,reduceCtorEq]
   refine EvL.skip rfl ?_;try simp only[rnA,Nat.reduceLT]
   refine EvL.skip rfl ?_;try simp only[rnA,Nat.reduceEqDiff,Nat.reduceLT,reduceCtorEq]
   refine EvL.skip rfl ?_;try simp only[rnA,Nat.reduceEqDiff,Nat.reduceLT,reduceCtorEq]
   refine EvL.skip rfl ?_;try simp only[rnA,Nat.reduceLT]
   refine EvL.skip rfl ?_;try simp only[rnA,Nat.reduceLT]
   refine EvL.skip rfl ?_;try simp only[rnA,Nat.reduceEqDiff,Nat.reduceLT,reduceCtorEq]
   refine EvL.skip rfl ?_;try simp only[rnA,Nat.reduceEqDiff,Nat.reduceLT,reduceCtorEq]
   refine EvL.skip rfl ?_;try simp only[rnA,Nat.reduceLT]
   refine EvL.skip rfl ?_;try simp only[rnA,Nat.reduceLT]
   refine EvL.skip rfl ?_;try simp only[rnA,Nat.reduceEqDiff,Nat.reduceLT,reduceCtorEq]
   refine EvL.skip rfl ?_;try simp only[rnA,Nat.reduceEqDiff,Nat.reduceLT,reduceCtorEq]
   replace j1:=qab j1; subst j1;exact lfj hT1 rfl (wm0 [] (by exact trivial))
  rw[c18,cond_true]at j1;obtain⟨r19,g20,j1⟩:=bind_some j1;try simp only[rnA,Nat.reduceEqDiff,Nat.reduceLT,Nat.reduceAdd,Nat.reduceLeDiff,reduceCtorEq]
  refine EvL.fnS (zbN g20) rfl rfl (.cons (Mzs.agg (.cons (zaf _ _ (fun h=>by cases h<;>contradiction)) (.cons (zaf _ _ (fun h=>by cases h<;>contradiction)) (.cons (zaf _ _ (fun h=>by cases h<;>contradiction)) .nil)))) .nil) ⟨⟨(zac _ _),(zac _ _),(zac _ _),qcf⟩,qcf⟩ ⟨qcf,⟨⟨rfl,zaj.fr _⟩,qcf⟩⟩ ?_;obtain⟨r21,g22,j1⟩:=bind_some j1;try simp only[rnA,Nat.reduceLT,zae]
  refine EvL.fn (za0 g22) rfl rfl (.cons (.zaS (.cons (zaa _ _ (fun h=>nomatch h)) (.cons (zaa _ _ (fun h=>nomatch h)) (.cons (zaa _ _ (fun h=>nomatch h)) .nil)))) (.cons (.zaS (.cons (zaa _ _ (fun h=>nomatch h)) (.cons (zaa _ _ (fun h=>nomatch h)) (.cons (zaa _ _ (fun h=>nomatch h)) .nil)))) .nil)) ?_;obtain⟨r23,g24,j1⟩:=bind_some j1;try simp only[rnA,Nat.reduceEqDiff,Nat.reduceLT,reduceCtorEq]
  refine EvL.fnv rfl rfl (zbc g24) rfl (.cons (.zaS (.cons (zaa _ _ (fun h=>nomatch h)) (.cons (zaa _ _ (fun h=>nomatch h)) (.cons (zaa _ _ (fun h=>nomatch h)) .nil)))) (.cons (.lit _) (.cons (.fptr (fun h=>nomatch h) rfl (zaj.snp (t:=false) (t':=false) r19 (fun h=>nomatch h)).get) .nil))) ?_;try simp only[rnA,Nat.reduceEqDiff,Nat.reduceLT,reduceCtorEq]
  cases c25:r23
  ·rw[c25,cond_false]at j1;try simp only[rnA,Nat.reduceEqDiff,Nat.reduceLT,reduceCtorEq]
   refine EvL.skip rfl ?_;try simp only[rnA,Nat.reduceLT]
   refine EvL.skip rfl ?_;try simp only[rnA,Nat.reduceEqDiff,Nat.reduceLT,reduceCtorEq]
   refine EvL.skip rfl ?_;try simp only[rnA,Nat.reduceEqDiff,Nat.reduceLT,reduceCtorEq]
   refine EvL.skip rfl ?_;try simp only[rnA,Nat.reduceLT]
   refine EvL.skip rfl ?_;try simp only[rnA,Nat.reduceLT]
   refine EvL.skip rfl ?_;try simp only[rnA,Nat.reduceEqDiff,Nat.reduceLT,reduceCtorEq]
   refine EvL.skip rfl ?_;try simp only[rnA,Nat.reduceEqDiff,Nat.reduceLT,reduceCtorEq]
   refine EvL.skip rfl ?_;try simp only[rnA,Nat.reduceLT]
   refine EvL.skip rfl ?_;try simp only[rnA,Nat.reduceLT]
   refine EvL.skip rfl ?_;try simp only[rnA,Nat.reduceEqDiff,Nat.reduceLT,reduceCtorEq]
   refine EvL.skip rfl ?_;try simp only[rnA,Nat.reduceEqDiff,Nat.reduceLT,reduceCtorEq]
   replace j1:=qab j1; subst j1;exact lfj hT1 rfl (wm0 [] (by exact trivial))
  rw[c25,cond_true]at j1;obtain⟨r26,g27,j1⟩:=bind_some j1;try simp only[rnA,Nat.reduceEqDiff,Nat.reduceLT,Nat.reduceAdd,Nat.reduceLeDiff,reduceCtorEq]
  refine EvL.fnS (zbN g27) rfl rfl (.cons (Mzs.agg (.cons (zaf _ _ (fun h=>by cases h<;>contradiction)) (.cons (zaf _ _ (fun h=>by cases h<;>contradiction)) (.cons (zaf _ _ (fun h=>by cases h<;>contradiction)) .nil)))) .nil) ⟨⟨(zac _ _),(zac _ _),(zac _ _),qcf⟩,qcf⟩ ⟨qcf,⟨⟨rfl,zaj.fr _⟩,qcf⟩⟩ ?_;obtain⟨r28,g29,j1⟩:=bind_some j1;try simp only[rnA,Nat.reduceLT,zae]
  refine EvL.fn (za0 g29) rfl rfl (.cons (.zaS (.cons (zaa _ _ (fun h=>nomatch h)) (.cons (zaa _ _ (fun h=>nomatch h)) (.cons (zaa _ _ (fun h=>nomatch h)) .nil)))) (.cons (.zaS (.cons (zaa _ _ (fun h=>nomatch h)) (.cons (zaa _ _ (fun h=>nomatch h)) (.cons (zaa _ _ (fun h=>nomatch h)) .nil)))) .nil)) ?_;obtain⟨r30,g31,j1⟩:=bind_some j1;try simp only[rnA,Nat.reduceEqDiff,Nat.reduceLT,reduceCtorEq]
  refine EvL.fnv rfl rfl (zbc g31) rfl (.cons (.zaS (.cons (zaa _ _ (fun h=>nomatch h)) (.cons (zaa _ _ (fun h=>nomatch h)) (.cons (zaa _ _ (fun h=>nomatch h)) .nil)))) (.cons (.lit _) (.cons (.fptr (fun h=>nomatch h) rfl (zaj.snp (t:=false) (t':=false) r26 (fun h=>nomatch h)).get) .nil))) ?_;try simp only[rnA,Nat.reduceEqDiff,Nat.reduceLT,reduceCtorEq]
  cases c32:r30
  ·rw[c32,cond_false]at j1;try simp only[rnA,Nat.reduceEqDiff,Nat.reduceLT,reduceCtorEq]
   refine EvL.skip rfl ?_;try simp only[rnA,Nat.reduceLT]
   refine EvL.skip rfl ?_;try simp only[rnA,Nat.reduceLT]
   refine EvL.skip rfl ?_;try simp only[rnA,Nat.reduceEqDiff,Nat.reduceLT,reduceCtorEq]
   refine EvL.skip rfl ?_;try simp only[rnA,Nat.reduceEqDiff,Nat.reduceLT,reduceCtorEq]
   refine EvL.skip rfl ?_;try simp only[rnA,Nat.reduceLT]
   refine EvL.skip rfl ?_;try simp only[rnA,Nat.reduceLT]
   refine EvL.skip rfl ?_;try simp only[rnA,Nat.reduceEqDiff,Nat.reduceLT,reduceCtorEq]
   refine EvL.skip rfl ?_;try simp only[rnA,Nat.reduceEqDiff,Nat.reduceLT,reduceCtorEq]
   replace j1:=qab j1; subst j1;exact lfj hT1 rfl (wm0 [] (by exact trivial))
  rw[c32,cond_true]at j1;obtain⟨r33,g34,j1⟩:=bind_some j1;try simp only[rnA,Nat.reduceEqDiff,Nat.reduceLT,Nat.reduceAdd,Nat.reduceLeDiff,reduceCtorEq]
  refine EvL.fnS (zbN g34) rfl rfl (.cons (Mzs.agg (.cons (zaf _ _ (fun h=>by cases h<;>contradiction)) (.cons (zaf _ _ (fun h=>by cases h<;>contradiction)) (.cons (zaf _ _ (fun h=>by cases h<;>contradiction)) .nil)))) .nil) ⟨⟨(zac _ _),(zac _ _),(zac _ _),qcf⟩,qcf⟩ ⟨qcf,⟨⟨rfl,zaj.fr _⟩,qcf⟩⟩ ?_;obtain⟨r35,g36,j1⟩:=bind_some j1;try simp only[rnA,Nat.reduceLT,zae]
  refine EvL.fn (zd0 g36) rfl rfl .nil ?_;obtain⟨r37,g38,j1⟩:=bind_some j1;try simp only[rnA,Nat.reduceLT]
  refine EvL.fn (za0 g38) rfl rfl (.cons (.zaS (.cons (zaa _ _ (fun h=>nomatch h)) (.cons (zaa _ _ (fun h=>nomatch h)) (.cons (zaa _ _ (fun h=>nomatch h)) .nil)))) (.cons (.zaS (.cons (zaa _ _ (fun h=>nomatch h)) (.cons (zaa _ _ (fun h=>nomatch h)) (.cons (zaa _ _ (fun h=>nomatch h)) .nil)))) .nil)) ?_;obtain⟨r39,g40,j1⟩:=bind_some j1;try simp only[rnA,Nat.reduceEqDiff,Nat.reduceLT,reduceCtorEq]
  refine EvL.fnv rfl rfl (zbc g40) rfl (.cons (.zaS (.cons (zaa _ _ (fun h=>nomatch h)) (.cons (zaa _ _ (fun h=>nomatch h)) (.cons (zaa _ _ (fun h=>nomatch h)) .nil)))) (.cons (.lit _) (.cons (.fptr (fun h=>nomatch h) rfl (zaj.snp (t:=false) (t':=false) r33 (fun h=>nomatch h)).get) .nil))) ?_;try simp only[rnA,Nat.reduceEqDiff,Nat.reduceLT,reduceCtorEq]
  cases c41:r39
  ·rw[c41,cond_false]at j1;try simp only[rnA,Nat.reduceEqDiff,Nat.reduceLT,reduceCtorEq]
   refine EvL.skip rfl ?_;try simp only[rnA,Nat.reduceLT]
   refine EvL.skip rfl ?_;try simp only[rnA,Nat.reduceLT]
   refine EvL.skip rfl ?_;try simp only[rnA,Nat.reduceEqDiff,Nat.reduceLT,reduceCtorEq]
   refine EvL.skip rfl ?_;try simp only[rnA,Nat.reduceEqDiff,Nat.reduceLT,reduceCtorEq]
   replace j1:=qab j1; subst j1;exact lfj hT1 rfl (wm0 [] (by exact trivial))
  rw[c41,cond_true]at j1;obtain⟨r42,g43,j1⟩:=bind_some j1;try simp only[rnA,Nat.reduceEqDiff,Nat.reduceLT,Nat.reduceAdd,Nat.reduceLeDiff,reduceCtorEq]
  refine EvL.fnS (zbN g43) rfl rfl (.cons (Mzs.agg (.cons (zaf _ _ (fun h=>by cases h<;>contradiction)) (.cons (zaf _ _ (fun h=>by cases h<;>contradiction)) (.cons (zaf _ _ (fun h=>by cases h<;>contradiction)) .nil)))) .nil) ⟨⟨(zac _ _),(zac _ _),(zac _ _),qcf⟩,qcf⟩ ⟨qcf,⟨⟨rfl,zaj.fr _⟩,qcf⟩⟩ ?_;obtain⟨r44,g45,j1⟩:=bind_some j1;try simp only[rnA,Nat.reduceLT,zae]
  refine EvL.fn (zd0 g45) rfl rfl .nil ?_;obtain⟨r46,g47,j1⟩:=bind_some j1;try simp only[rnA,Nat.reduceLT]
  refine EvL.fn (za0 g47) rfl rfl (.cons (.zaS (.cons (zaa _ _ (fun h=>nomatch h)) (.cons (zaa _ _ (fun h=>nomatch h)) (.cons (zaa _ _ (fun h=>nomatch h)) .nil)))) (.cons (.zaS (.cons (zaa _ _ (fun h=>nomatch h)) (.cons (zaa _ _ (fun h=>nomatch h)) (.cons (zaa _ _ (fun h=>nomatch h)) .nil)))) .nil)) ?_;obtain⟨r48,g49,j1⟩:=bind_some j1;try simp only[rnA,Nat.reduceEqDiff,Nat.reduceLT,reduceCtorEq]
  refine EvL.fnv rfl rfl (zbc g49) rfl (.cons (.zaS (.cons (zaa _ _ (fun h=>nomatch h)) (.cons (zaa _ _ (fun h=>nomatch h)) (.cons (zaa _ _ (fun h=>nomatch h)) .nil)))) (.cons (.lit _) (.cons (.fptr (fun h=>nomatch h) rfl (zaj.snp (t:=false) (t':=false) r42 (fun h=>nomatch h)).get) .nil))) ?_;try simp only[rnA,Nat.reduceEqDiff,Nat.reduceLT,reduceCtorEq]
  replace j1:=qab j1; subst j1;exact lfj hT1 rfl (wm0 [] (by exact trivial))
 rintro v6 rfl;rw[congrFun hT1 v6];refine zab ?_;try simp only[rnA]
 replace h:=qab h; subst h;exact zcH.ret rfl (.lit _)
end Go.Dc
