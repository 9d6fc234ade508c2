/-
 What r02_At computes. Conditions: none.
-/
import Derived.Test.YtnfgibomhkbcpaaFvJ4
set_option linter.unusedSimpArgs false
set_option linter.unusedVariables false
set_option maxRecDepth 100000
set_option maxHeartbeats 4000000
namespace Go.Dc
open Go Go.Mx Go.Lx Go.Proofs
def zaF(r10:(S_api_Factor×Int))(r8:(S_api_Factor×Int))(r4:S_api_Factor):Nat→Int→Option (Out Unit Bool)
 | 0,_=>none
 | n+1,v77=>(
bif (decide (v77<(r10.1.w.length:Int)))then(
(zbl r10.1.w v77).bind fun x24=>
(((zbl r8.1.w v77).bind fun x26=>
bif (x26 == 0)then(
some (!(x24 == 0)))
else(
(zbl r4.w v77).bind fun x29=>
bif (x24 == x29)then(
some false)
else(
some true)):Option Bool)).bind fun v108=>
bif v108 then(
some (.ret false))
else(
zaF r10 r8 r4 n (w64 (v77+1))))
else(
some (.go ())))
def zbZ(N:Nat)(p0:S_haruspexref03_Draft)(p1:S_haruspexref03_Draft):Option Bool:=
(zcT).bind fun r1=>
bif r1 then(
(zaB N (S_haruspexref03_Draft.mk (orI .u8 p0.which p1.which) p0.n false)).bind fun r4=>
(zaB N (S_haruspexref03_Draft.mk p1.which p1.n false)).bind fun r6=>
(za8 r4 r6).bind fun r8=>
(zaU r8.1 r6).bind fun r10=>
((bif (r8.2 == 0)then(
bif (r10.2 == 0)then(
(zcE r8.1).bind fun r14=>
(za8 r10.1 r6).bind fun r16=>
(zbg r16.1 r16.2 r14).bind fun r18=>
bif r18 then(
bif ((r10.1.w.length:Int)==(r4.w.length:Int))then(
some (!((r8.1.w.length:Int)==(r4.w.length:Int))))
else(
some true))
else(
some true))
else(
some true))
else(
some true):Option Bool)).bind fun v73=>
bif v73 then(
some false)
else(
((zaF r10 r8 r4 ((r10.1.w.length:Int) - 0+2:Int).toNat 0:Option (Out Unit Bool))).bind fun o=>match o with
| .go _=>(
some true)
| .ret r=>some r))
else(
some false)
def zdB:C:=
 .seq (rg [oW 2 0,
 oW 3 1,
 oJ 4 false])
 (.seq (.seq (rg [⟨some 13,.call 20 [],none⟩,
 ⟨some 14,.un .not (.s 13),none⟩])
 (.cond (.s 14) (.seq (rg [oJ 4 false])
 (.ret))
 (.skip)))
 (.seq (rg [oF 15 2 2,
 ⟨none,.store 1 (.s 15) (.c (.bool false)),none⟩,
 oF 16 2 3,
 ⟨none,.store 1 (.s 16) (.c (.bool false)),none⟩])
 (.seq (rg [oF 17 0 2,
 oL 18 17,
 oF 19 0 3,
 oL 20 19,
 oB 21 .or 18 20,
 oF 22 0 2,
 oS 1 22 21])
 (.seq (.reg true true [oN 23 3 2,
 oN 25 3 3,
 oU 24 22 23,
 oU 26 22 25,
 ⟨some 5,.alloc [(.slice none 0 0),(.slice none 0 0),(.slice none 0 0)],none⟩,
 ⟨some 6,.alloc [(.slice none 0 0),(.slice none 0 0),(.slice none 0 0)],none⟩,
 oS 3 5 24,
 oS 3 6 26])
 (.seq (rg [oN 28 3 5,
 oN 29 3 6,
 oV 30 25 28 29,
 oM 27 30,
 oX 31 27 0,
 oX 32 27 1,
 ⟨some 7,.alloc [(.slice none 0 0),(.slice none 0 0),(.slice none 0 0)],none⟩,
 oS 3 7 31,
 oM 8 32])
 (.seq (rg [oN 34 3 7,
 oN 35 3 6,
 oV 36 26 34 35,
 oM 33 36,
 oX 37 33 0,
 oX 38 33 1,
 ⟨some 9,.alloc [(.slice none 0 0),(.slice none 0 0),(.slice none 0 0)],none⟩,
 oS 3 9 37,
 oM 10 38])
 (.seq (.seq (.scope (.reg true true [oM 39 8,
 oD 40 .neq 39 0,
 oM 41 40,
 oMg 42 10 41 false,
 oDg 43 .neq 42 0 41 false,
 oP 44 41 43,
 oM 45 44,
 ⟨some 46,.load (some 3) (.s 7),some (45,false)⟩,
 ⟨some 48,.load (some 3) (.s 9),some (45,false)⟩,
 ⟨some 49,.load (some 3) (.s 6),some (45,false)⟩,
 ⟨some 47,.call 44 [(.s 46)],some (45,false)⟩,
 ⟨some 50,.call 25 [(.s 48),(.s 49)],some (45,false)⟩,
 ⟨some 51,.ext (.s 50) 0,some (45,false)⟩,
 ⟨some 52,.ext (.s 50) 1,some (45,false)⟩,
 ⟨some 53,.zbN (.s 47) [(.s 51),(.s 52)],some (45,false)⟩,
 ⟨some 54,.un .not (.s 53),some (45,false)⟩,
 oP 55 45 54,
 oM 56 55,
 oFg 57 2 9 56 false,
 oLg 58 57 56 false,
 ⟨some 59,.len (.s 58),some (56,false)⟩,
 oFg 60 2 5 56 false,
 oLg 61 60 56 false,
 ⟨some 62,.len (.s 61),some (56,false)⟩,
 ⟨some 63,.bin .neq (.s 59) (.s 62),some (56,false)⟩,
 oP 64 56 63,
 oM 65 64,
 oFg 66 2 7 65 false,
 oLg 67 66 65 false,
 ⟨some 68,.len (.s 67),some (65,false)⟩,
 oFg 69 2 5 65 false,
 oLg 70 69 65 false,
 ⟨some 71,.len (.s 70),some (65,false)⟩,
 ⟨some 72,.bin .neq (.s 68) (.s 71),some (65,false)⟩,
 oP 73 65 72]))
 (.cond (.s 73) (.seq (rg [oJ 4 false])
 (.ret))
 (.skip)))
 (.seq (.seq (rg [oF 74 2 9,
 oL 75 74,
 oE 76 75,
 oK 77 0])
 (.scope (.block 0 (.loop (.seq (rg [oB 78 .lss 77 76])
 (.seq (.cond (.s 78) (.skip)
 (.exit 0))
 (.seq (.block 1 (.seq (rg [oM 79 77,
 oI 80 1 75 77,
 oL 81 80,
 oM 11 79,
 oM 12 81])
 (.seq (.scope (rg [oF 82 2 7,
 oL 83 82,
 oM 84 11,
 oI 85 1 83 84,
 oL 86 85,
 oD 87 .neq 86 0,
 oM 88 87,
 oMg 89 12 88 true,
 oFg 90 2 5 88 true,
 oLg 91 90 88 true,
 oMg 92 11 88 true,
 ⟨some 93,.idxS 1 (.s 91) (.s 92),some (88,true)⟩,
 oLg 94 93 88 true,
 ⟨some 95,.bin .neq (.s 89) (.s 94),some (88,true)⟩,
 ⟨some 96,.pick (.s 88) (.s 95) (.c (.bool false)),none⟩,
 oM 97 96,
 oFg 98 2 7 97 false,
 oLg 99 98 97 false,
 oMg 100 11 97 false,
 ⟨some 101,.idxS 1 (.s 99) (.s 100),some (97,false)⟩,
 oLg 102 101 97 false,
 oDg 103 .eql 102 0 97 false,
 oMg 104 103 97 false,
 oMg 105 12 104 true,
 oDg 106 .neq 105 0 104 true,
 ⟨some 107,.pick (.s 104) (.s 106) (.c (.bool false)),some (97,false)⟩,
 oP 108 97 107]))
 (.cond (.s 108) (.seq (rg [oJ 4 false])
 (.ret))
 (.skip)))))
 (rg [oD 109 .add 77 1,
 oM 77 109]))))))))
 (.seq (rg [oJ 4 true])
 (.ret))))))))))
theorem zeT:zgz mC 10=some (110,zdB,[.tmp 4],false):=za6 (by kernel_rfl)
theorem ze6{N:Nat}{p0:S_haruspexref03_Draft}{p1:S_haruspexref03_Draft}{r:Bool}(h:zbZ N p0 p1=some r):Lx.Fn mC 10 [(.agg [(dU8 p0.which),(fzE false (eI .u8) p0.n),(dB p0.large)]),(.agg [(dU8 p1.which),(fzE false (eI .u8) p1.n),(dB p1.large)])] (dB r):=by
 refine Fn.of zeT (zaX rfl) (qad rfl) ?_;unfold zbZ at h;simp only[zdB,zkA];refine zab ?_;obtain⟨r1,g2,h⟩:=bind_some h;try simp only[rnA,Nat.reduceEqDiff,Nat.reduceLT,Nat.reduceAdd,reduceCtorEq]
 refine EvL.fn (zjw g2) rfl rfl .nil ?_;try simp only[rnA,Nat.reduceEqDiff,Nat.reduceLT,reduceCtorEq]
 cases c3:r1
 ·rw[c3,cond_false]at h;try simp only[rnA,Nat.reduceLT]
  replace h:=qab h; subst h;exact zcC.ret rfl (.lit _)
 rw[c3,cond_true]at h;obtain⟨r4,g5,h⟩:=bind_some h;try simp only[rnA,Nat.reduceEqDiff,Nat.reduceLT,Nat.reduceAdd,Nat.reduceLeDiff,reduceCtorEq]
 refine EvL.fn (zdk g5) rfl rfl (.cons (.za5 (.cons (.lit _) (.cons (zaa _ _ (fun h=>nomatch h)) (.cons (.lit _) .nil)))) .nil) ?_;obtain⟨r6,g7,h⟩:=bind_some h;try simp only[rnA,Nat.reduceLT]
 refine EvL.fn (zdk g7) rfl rfl (.cons (.za5 (.cons (.lit _) (.cons (zaa _ _ (fun h=>nomatch h)) (.cons (.lit _) .nil)))) .nil) ?_;obtain⟨r8,g9,h⟩:=bind_some h;try simp only[rnA,Nat.reduceEqDiff,Nat.reduceLT,Nat.reduceAdd,Nat.reduceLeDiff,reduceCtorEq]
 refine EvL.fn (zcI g9) rfl rfl (.cons (.za5 (.cons (zaa _ _ (fun h=>nomatch h)) (.cons (zaa _ _ (fun h=>nomatch h)) (.cons (zaa _ _ (fun h=>nomatch h)) .nil)))) (.cons (.za5 (.cons (zaa _ _ (fun h=>nomatch h)) (.cons (zaa _ _ (fun h=>nomatch h)) (.cons (zaa _ _ (fun h=>nomatch h)) .nil)))) .nil)) ?_;obtain⟨r10,g11,h⟩:=bind_some h;try simp only[rnA,Nat.reduceEqDiff,Nat.reduceLT,Nat.reduceAdd,Nat.reduceLeDiff,reduceCtorEq]
 refine EvL.fn (zck g11) rfl rfl (.cons (.za5 (.cons (zaa _ _ (fun h=>nomatch h)) (.cons (zaa _ _ (fun h=>nomatch h)) (.cons (zaa _ _ (fun h=>nomatch h)) .nil)))) (.cons (.za5 (.cons (zaa _ _ (fun h=>nomatch h)) (.cons (zaa _ _ (fun h=>nomatch h)) (.cons (zaa _ _ (fun h=>nomatch h)) .nil)))) .nil)) ?_;try simp only[rnA,Nat.reduceEqDiff,Nat.reduceLT,Nat.reduceAdd,Nat.reduceLeDiff,reduceCtorEq]
 obtain⟨o1,j1,h⟩:=bind_some h;obtain⟨T1,hT1⟩:=mkT fun a:Bool=>⟨110,[(5,(.ptr 2 0)),(7,(.ptr 4 0)),(9,(.ptr 5 0)),(73,(dB a))],[.gone,.gone,.cells [(fzE true (eI .i64) r4.vars),(fzE true (eI .i64) r4.zad),(fzE true (eI .i64) r4.w)],.gone,.cells [(fzE true (eI .i64) r8.1.vars),(fzE true (eI .i64) r8.1.zad),(fzE true (eI .i64) r8.1.w)],.cells [(fzE true (eI .i64) r10.1.vars),(fzE true (eI .i64) r10.1.zad),(fzE true (eI .i64) r10.1.w)]]⟩
 refine EvL.jn T1 (fun a=>a=o1) ?_ ?_
 ·refine zab ?_;try simp only[rnA,Nat.reduceEqDiff,Nat.reduceLT,reduceCtorEq]
  cases c12:(r8.2 == 0)
  ·rw[c12,cond_false]at j1;try simp only[rnA,Nat.reduceEqDiff,Nat.reduceLT,reduceCtorEq]
   refine EvL.skip rfl ?_;try simp only[rnA,Nat.reduceLT]
   refine EvL.skip rfl ?_;try simp only[rnA,Nat.reduceEqDiff,Nat.reduceLT,reduceCtorEq]
   refine EvL.skip rfl ?_;try simp only[rnA,Nat.reduceEqDiff,Nat.reduceLT,reduceCtorEq]
   replace j1:=qab j1; subst j1;exact lfj hT1 rfl (wm0 [.d,.d,.k,.d,.k,.k] ⟨rfl,⟨rfl,⟨MB.cs ⟨qci,qci,qci,qci⟩,⟨rfl,⟨MB.cs ⟨qci,qci,qci,qci⟩,⟨MB.cs ⟨qci,qci,qci,qci⟩,qci⟩⟩⟩⟩⟩⟩)
  rw[c12,cond_true]at j1;try simp only[rnA,Nat.reduceEqDiff,Nat.reduceLT,reduceCtorEq]
  cases c13:(r10.2 == 0)
  ·rw[c13,cond_false]at j1;try simp only[rnA,Nat.reduceEqDiff,Nat.reduceLT,reduceCtorEq]
   refine EvL.skip rfl ?_;try simp only[rnA,Nat.reduceLT]
   refine EvL.skip rfl ?_;try simp only[rnA,Nat.reduceEqDiff,Nat.reduceLT,reduceCtorEq]
   refine EvL.skip rfl ?_;try simp only[rnA,Nat.reduceEqDiff,Nat.reduceLT,reduceCtorEq]
   replace j1:=qab j1; subst j1;exact lfj hT1 rfl (wm0 [.d,.d,.k,.d,.k,.k] ⟨rfl,⟨rfl,⟨MB.cs ⟨qci,qci,qci,qci⟩,⟨rfl,⟨MB.cs ⟨qci,qci,qci,qci⟩,⟨MB.cs ⟨qci,qci,qci,qci⟩,qci⟩⟩⟩⟩⟩⟩)
  rw[c13,cond_true]at j1;obtain⟨r14,g15,j1⟩:=bind_some j1;try simp only[rnA,Nat.reduceEqDiff,Nat.reduceLT,Nat.reduceAdd,Nat.reduceLeDiff,reduceCtorEq]
  refine EvL.fnS (zcH g15) rfl rfl (.cons (Mzs.agg (.cons (zag _ _ (fun h=>by cases h<;>contradiction)) (.cons (zag _ _ (fun h=>by cases h<;>contradiction)) (.cons (zag _ _ (fun h=>by cases h<;>contradiction)) .nil)))) .nil) ⟨⟨(zac _ _),(zac _ _),(zac _ _),qci⟩,qci⟩ ⟨qci,⟨⟨rfl,zal.fr _⟩,qci⟩⟩ ?_;obtain⟨r16,g17,j1⟩:=bind_some j1;try simp only[rnA,Nat.reduceLT,zae]
  refine EvL.fn (zcI g17) rfl rfl (.cons (.za5 (.cons (zaa _ _ (fun h=>nomatch h)) (.cons (zaa _ _ (fun h=>nomatch h)) (.cons (zaa _ _ (fun h=>nomatch h)) .nil)))) (.cons (.za5 (.cons (zaa _ _ (fun h=>nomatch h)) (.cons (zaa _ _ (fun h=>nomatch h)) (.cons (zaa _ _ (fun h=>nomatch h)) .nil)))) .nil)) ?_;obtain⟨r18,g19,j1⟩:=bind_some j1;try simp only[rnA,Nat.reduceEqDiff,Nat.reduceLT,reduceCtorEq]
  refine EvL.fnv rfl rfl (zbH g19) rfl (.cons (.za5 (.cons (zaa _ _ (fun h=>nomatch h)) (.cons (zaa _ _ (fun h=>nomatch h)) (.cons (zaa _ _ (fun h=>nomatch h)) .nil)))) (.cons (.lit _) (.cons (.fptr (fun h=>nomatch h) rfl (zal.snp (t:=false) (t':=false) r14 (fun h=>nomatch h)).get) .nil))) ?_;try simp only[rnA,Nat.reduceEqDiff,Nat.reduceLT,reduceCtorEq]
  cases c20:r18
  ·rw[c20,cond_false]at j1;try simp only[rnA,Nat.reduceEqDiff,Nat.reduceLT,reduceCtorEq]
   replace j1:=qab j1; subst j1;exact lfj hT1 rfl (wm0 [.d,.d,.k,.d,.k,.k] ⟨rfl,⟨rfl,⟨MB.cs ⟨qci,qci,qci,qci⟩,⟨rfl,⟨MB.cs ⟨qci,qci,qci,qci⟩,⟨MB.cs ⟨qci,qci,qci,qci⟩,qci⟩⟩⟩⟩⟩⟩)
  rw[c20,cond_true]at j1;try simp only[rnA,Nat.reduceEqDiff,Nat.reduceLT,reduceCtorEq,zaQ]
  cases c21:((r10.1.w.length:Int)==(r4.w.length:Int))
  ·rw[c21,cond_false]at j1;try simp only[rnA,Nat.reduceEqDiff,Nat.reduceLT,reduceCtorEq]
   replace j1:=qab j1; subst j1;exact lfj hT1 rfl (wm0 [.d,.d,.k,.d,.k,.k] ⟨rfl,⟨rfl,⟨MB.cs ⟨qci,qci,qci,qci⟩,⟨rfl,⟨MB.cs ⟨qci,qci,qci,qci⟩,⟨MB.cs ⟨qci,qci,qci,qci⟩,qci⟩⟩⟩⟩⟩⟩)
  rw[c21,cond_true]at j1;try simp only[rnA,Nat.reduceEqDiff,Nat.reduceLT,reduceCtorEq,zaQ]
  replace j1:=qab j1; subst j1;exact lfj hT1 rfl (wm0 [.d,.d,.k,.d,.k,.k] ⟨rfl,⟨rfl,⟨MB.cs ⟨qci,qci,qci,qci⟩,⟨rfl,⟨MB.cs ⟨qci,qci,qci,qci⟩,⟨MB.cs ⟨qci,qci,qci,qci⟩,qci⟩⟩⟩⟩⟩⟩)
 rintro v73 rfl;rw[congrFun hT1 v73];refine zab ?_;try simp only[rnA,Nat.reduceEqDiff]
 cases c22:v73
 ·rw[c22,cond_false]at h;try simp only[rnA,Nat.reduceEqDiff,Nat.reduceLT,zaQ]
  obtain⟨o5,j5,h⟩:=bind_some h;obtain⟨T5,hT5⟩:=mkT fun a:Unit=>⟨110,[],[]⟩
  refine EvL.jn T5 (fun a=>o5=.go a) ?_ ?_
  ·refine zab ?_;simp only[rnA];obtain⟨T8,hT8⟩:=mkT fun a:Int=>⟨110,[(5,(.ptr 2 0)),(7,(.ptr 4 0)),(75,(fzE true (eI .i64) r10.1.w)),(76,(dI (r10.1.w.length:Int))),(77,(dI a))],[.gone,.gone,.cells [(fzE true (eI .i64) r4.vars),(fzE true (eI .i64) r4.zad),(fzE true (eI .i64) r4.w)],.gone,.cells [(fzE true (eI .i64) r8.1.vars),(fzE true (eI .i64) r8.1.zad),(fzE true (eI .i64) r8.1.w)]]⟩
   refine EvL.rounds (α:=Int) T8 (fun n a=>zaF r10 r8 r4 n a=some o5) ((r10.1.w.length:Int) - 0+2:Int).toNat 0 (by rw[hT8]; exact wm0 [.d,.d,.k,.d,.k] ⟨rfl,⟨rfl,⟨MB.cs ⟨qci,qci,qci,qci⟩,⟨rfl,⟨MB.cs ⟨qci,qci,qci,qci⟩,qci⟩⟩⟩⟩⟩) j5 (fun _ h=>nomatch (show(none:Option (Out Unit Bool))=some o5 from h)) ?_;rintro n v77 j5;simp only[zaF]at j5;rw[congrFun hT8 v77];refine zab ?_;try simp only[rnA,Nat.reduceEqDiff,Nat.reduceLT]
   cases c23:(decide (v77<(r10.1.w.length:Int)))
   ·rw[c23,cond_false]at j5;try simp only[rnA]
    replace j5:=qab j5; subst j5;exact lfj hT5 rfl (wm0 [] (by exact trivial))
   rw[c23,cond_true]at j5;obtain⟨x24,g25,j5⟩:=bind_some j5;try simp only[rnA,Nat.reduceEqDiff,Nat.reduceLT,zaq (n:=1) (e:=(eI .i64)) rfl g25]
   obtain⟨o9,j9,j5⟩:=bind_some j5;obtain⟨T9,hT9⟩:=mkT fun a:Bool=>⟨110,[(5,(.ptr 2 0)),(7,(.ptr 4 0)),(75,(fzE true (eI .i64) r10.1.w)),(76,(dI (r10.1.w.length:Int))),(77,(dI v77)),(108,(dB a))],[.gone,.gone,.cells [(fzE true (eI .i64) r4.vars),(fzE true (eI .i64) r4.zad),(fzE true (eI .i64) r4.w)],.gone,.cells [(fzE true (eI .i64) r8.1.vars),(fzE true (eI .i64) r8.1.zad),(fzE true (eI .i64) r8.1.w)]]⟩
   refine EvL.jn T9 (fun a=>a=o9) ?_ ?_
   ·refine zab ?_;obtain⟨x26,g27,j9⟩:=bind_some j9;try simp only[rnA,Nat.reduceEqDiff,Nat.reduceLT,zaq (n:=1) (e:=(eI .i64)) rfl g27]
    cases c28:(x26 == 0)
    ·rw[c28,cond_false]at j9;obtain⟨x29,g30,j9⟩:=bind_some j9;try simp only[rnA,Nat.reduceEqDiff,Nat.reduceLT,zaq (n:=1) (e:=(eI .i64)) rfl g30]
     cases c31:(x24 == x29)
     ·rw[c31,cond_false]at j9;try simp only[rnA,Nat.reduceEqDiff,Nat.reduceLT]
      replace j9:=qab j9; subst j9;exact lfj hT9 rfl (wm0 [.d,.d,.k,.d,.k] ⟨rfl,⟨rfl,⟨MB.cs ⟨qci,qci,qci,qci⟩,⟨rfl,⟨MB.cs ⟨qci,qci,qci,qci⟩,qci⟩⟩⟩⟩⟩)
     rw[c31,cond_true]at j9;try simp only[rnA,Nat.reduceEqDiff,Nat.reduceLT,zaq (n:=1) (e:=(eI .i64)) rfl g27,c28]
     replace j9:=qab j9; subst j9;exact lfj hT9 rfl (wm0 [.d,.d,.k,.d,.k] ⟨rfl,⟨rfl,⟨MB.cs ⟨qci,qci,qci,qci⟩,⟨rfl,⟨MB.cs ⟨qci,qci,qci,qci⟩,qci⟩⟩⟩⟩⟩)
    rw[c28,cond_true]at j9;try simp only[rnA,Nat.reduceEqDiff,Nat.reduceLT,zaq (n:=1) (e:=(eI .i64)) rfl g27,c28]
    replace j9:=qab j9; subst j9;exact lfj hT9 rfl (wm0 [.d,.d,.k,.d,.k] ⟨rfl,⟨rfl,⟨MB.cs ⟨qci,qci,qci,qci⟩,⟨rfl,⟨MB.cs ⟨qci,qci,qci,qci⟩,qci⟩⟩⟩⟩⟩)
   rintro v108 rfl;rw[congrFun hT9 v108];refine zab ?_;try simp only[rnA,Nat.reduceEqDiff]
   cases c32:v108
   ·rw[c32,cond_false]at j5;try simp only[rnA,Nat.reduceEqDiff,Nat.reduceLT]
    exact⟨(w64 (v77+1)),j5,by rw[hT8]; exact wm0 [.d,.d,.k,.d,.k] ⟨rfl,⟨rfl,⟨MB.cs ⟨qci,qci,qci,qci⟩,⟨rfl,⟨MB.cs ⟨qci,qci,qci,qci⟩,qci⟩⟩⟩⟩⟩⟩
   rw[c32,cond_true]at j5;try simp only[rnA,Nat.reduceLT]
   replace j5:=qab j5; subst j5;dsimp only at h;replace h:=qab h; subst h;exact zcC.ret rfl (.lit _)
  rintro⟨⟩ rfl;dsimp only at h;rw[congrFun hT5 ()];refine zab ?_;try simp only[rnA,Nat.reduceLT]
  replace h:=qab h; subst h;exact zcC.ret rfl (.lit _)
 rw[c22,cond_true]at h;try simp only[rnA,Nat.reduceLT]
 replace h:=qab h; subst h;exact zcC.ret rfl (.lit _)
end Go.Dc
