/-
 What net_Descendants computes. Conditions: none.
-/
import Derived.Test.YtifdmgbehogecaaNwJ4
import Derived.Test.YtifdmgbehogecaaNwJ2
set_option linter.unusedSimpArgs false
set_option linter.unusedVariables false
set_option maxRecDepth 100000
set_option maxHeartbeats 4000000
namespace Go.Dc
open Go Go.Mx Go.Lx Go.Proofs
def zd1(r1:(S_net_network×Int))(x10:Int)(v34:Int):Nat→Int→(List Int)→Option (List Int)
 | 0,_,_=>none
 | n+1,v41,l2'=>(
bif (decide (v41<(((Int.toNat (r1.1.sets.length:Int)):Nat):Int)))then(
(zaF l2' v41).bind fun x13=>
(zi2 .u64 x10 v41).bind fun q15=>
(znn .u64 (zlo .u64 q15 1) v34).bind fun q17=>
(zgt l2' v41 (orI .u64 x13 q17)).bind fun y19=>
zd1 r1 x10 v34 n (w64 (v41+1)) y19)
else(
some l2'))
def zd3(r1:(S_net_network×Int)):Nat→Int→(List Int)→Option (List Int)
 | 0,_,_=>none
 | n+1,v34,l2=>(
bif (decide (v34<(r1.1.sets.length:Int)))then(
(zaF r1.1.sets v34).bind fun x10=>
((zd1 r1 x10 v34 ((((Int.toNat (r1.1.sets.length:Int)):Nat):Int) - 0+2:Int).toNat 0 l2:Option (List Int))).bind fun l2'=>
zd3 r1 n (w64 (v34+1)) l2')
else(
some l2))
def zeh(N:Nat)(p0:S_api_Net)(p1:Int):Option (Int×Int):=
(zaO p0).bind fun r1=>
bif (r1.2 == 0)then(
(zi2 .u64 p1 (r1.1.net.nodes.length:Int)).bind fun q4=>
bif (q4 == 0)then(
(zfE 8 (r1.1.sets.length:Int) 0).bind fun y7=>
((zd3 r1 ((r1.1.sets.length:Int) - 0+2:Int).toNat 0 y7:Option (List Int))).bind fun l2=>
(zgb N l2 p1).bind fun r21=>
some (r21,0))
else(
some (0,2)))
else(
some (0,r1.2))
def zbc(p0:(List Int))(p1:Int):Nat→Int→Option (Out Unit Bool)
 | 0,_=>none
 | n+1,v5=>(
bif (decide (v5<(p0.length:Int)))then(
(((zaF p0 v5).bind fun x2=>
bif (decide (x2<0))then(
some true)
else(
bif (decide (p1≤x2))then(
some true)
else(
bif (decide (0<v5))then(
(zaF p0 (w64 (v5 - 1))).bind fun x7=>
some (decide (x2≤x7)))
else(
some false))):Option Bool)).bind fun v40=>
bif v40 then(
some (.ret false))
else(
zbc p0 p1 n (w64 (v5+1))))
else(
some (.go ())))
def zdh(p0:(List Int))(p1:Int):Option Bool:=
((zbc p0 p1 ((p0.length:Int) - 0+2:Int).toNat 0:Option (Out Unit Bool))).bind fun o=>match o with
| .go _=>(
some true)
| .ret r=>some r
def zgL:C:=
 .seq (rg [oJ 4 false])
 (.seq (.seq (rg [oK 5 0])
 (.scope (.block 0 (.loop (.seq (.seq (rg [oM 6 5,
 oM 7 0,
 oE 8 7,
 oB 9 .lss 6 8])
 (.cond (.s 9) (.skip)
 (.exit 0)))
 (.seq (.block 1 (.seq (.scope (.reg true false [oM 12 0,
 oM 13 5,
 oI 14 1 12 13,
 oL 15 14,
 oD 16 .lss 15 0,
 oM 17 16,
 oMg 18 0 17 false,
 oMg 19 5 17 false,
 ⟨some 20,.idxS 1 (.s 18) (.s 19),some (17,false)⟩,
 oLg 21 20 17 false,
 oMg 22 1 17 false,
 ⟨some 23,.bin .geq (.s 21) (.s 22),some (17,false)⟩,
 oP 24 17 23,
 oM 25 24,
 oMg 26 5 25 false,
 oDg 27 .gtr 26 0 25 false,
 oMg 28 27 25 false,
 oMg 29 0 28 true,
 oMg 30 5 28 true,
 ⟨some 31,.idxS 1 (.s 29) (.s 30),some (28,true)⟩,
 oLg 32 31 28 true,
 oMg 33 0 28 true,
 oMg 34 5 28 true,
 oDg 35 .sub 34 1 28 true,
 ⟨some 36,.idxS 1 (.s 33) (.s 35),some (28,true)⟩,
 oLg 37 36 28 true,
 ⟨some 38,.bin .leq (.s 32) (.s 37),some (28,true)⟩,
 ⟨some 39,.pick (.s 28) (.s 38) (.c (.bool false)),some (25,false)⟩,
 oP 40 25 39]))
 (.cond (.s 40) (.seq (rg [oJ 4 false])
 (.ret))
 (.skip))))
 (rg [oM 10 5,
 oD 11 .add 10 1,
 oM 5 11])))))))
 (.seq (rg [oJ 4 true])
 (.ret)))
theorem zia:zjK mC 49=some (41,zgL,[.tmp 4],false):=zbT (by kernel_rfl)
theorem zjS{p0:(List Int)}{p1:Int}{r:Bool}(h:zdh p0 p1=some r):Lx.Fn mC 49 [(fzE false (eI .i64) p0),(dI p1)] (dB r):=by
 refine Fn.of zia (zbE rfl) (qah rfl) ?_;unfold zdh at h;simp only[zgL,zeJ];refine zab ?_;try simp only[rnA,Nat.reduceLT,Nat.reduceAdd]
 obtain⟨o4,j4,h⟩:=bind_some h;obtain⟨T4,hT4⟩:=mkT fun a:Unit=>⟨41,[],[]⟩
 refine EvL.jn T4 (fun a=>o4=.go a) ?_ ?_
 ·refine zab ?_;simp only[rnA];obtain⟨T7,hT7⟩:=mkT fun a:Int=>⟨41,[(0,(fzE false (eI .i64) p0)),(1,(dI p1)),(5,(dI a))],[]⟩
  refine EvL.rounds (α:=Int) T7 (fun n a=>zbc p0 p1 n a=some o4) ((p0.length:Int) - 0+2:Int).toNat 0 (by rw[hT7]; exact wm0 [] (by exact trivial)) j4 (fun _ h=>nomatch (show(none:Option (Out Unit Bool))=some o4 from h)) ?_;rintro n v5 j4;simp only[zbc]at j4;rw[congrFun hT7 v5];refine zab ?_;try simp only[rnA,Nat.reduceEqDiff,Nat.reduceLT,reduceCtorEq,zaj]
  cases c1:(decide (v5<(p0.length:Int)))
  ·rw[c1,cond_false]at j4;try simp only[rnA]
   replace j4:=qab j4; subst j4;exact lfj hT4 rfl (wm0 [] (by exact trivial))
  rw[c1,cond_true]at j4;try simp only[rnA]
  obtain⟨o8,j8,j4⟩:=bind_some j4;obtain⟨T8,hT8⟩:=mkT fun a:Bool=>⟨41,[(0,(fzE false (eI .i64) p0)),(1,(dI p1)),(5,(dI v5)),(40,(dB a))],[]⟩
  refine EvL.jn T8 (fun a=>a=o8) ?_ ?_
  ·refine zab ?_;obtain⟨x2,g3,j8⟩:=bind_some j8;try simp only[rnA,Nat.reduceEqDiff,Nat.reduceLT,reduceCtorEq,zai (n:=1) (e:=(eI .i64)) rfl g3]
   cases c4:(decide (x2<0))
   ·rw[c4,cond_false]at j8;try simp only[rnA,Nat.reduceEqDiff,Nat.reduceLT,reduceCtorEq,zai (n:=1) (e:=(eI .i64)) rfl g3]
    cases c5:(decide (p1≤x2))
    ·rw[c5,cond_false]at j8;try simp only[rnA,Nat.reduceEqDiff,Nat.reduceLT,reduceCtorEq]
     cases c6:(decide (0<v5))
     ·rw[c6,cond_false]at j8;try simp only[rnA,Nat.reduceEqDiff,Nat.reduceLT,reduceCtorEq]
      replace j8:=qab j8; subst j8;exact lfj hT8 rfl (wm0 [] (by exact trivial))
     rw[c6,cond_true]at j8;obtain⟨x7,g8,j8⟩:=bind_some j8;try simp only[rnA,Nat.reduceEqDiff,Nat.reduceLT,reduceCtorEq,zai (n:=1) (e:=(eI .i64)) rfl g3,zai (n:=1) (e:=(eI .i64)) rfl g8]
     replace j8:=qab j8; subst j8;exact lfj hT8 rfl (wm0 [] (by exact trivial))
    rw[c5,cond_true]at j8;try simp only[rnA,Nat.reduceEqDiff,Nat.reduceLT,reduceCtorEq]
    replace j8:=qab j8; subst j8;exact lfj hT8 rfl (wm0 [] (by exact trivial))
   rw[c4,cond_true]at j8;try simp only[rnA,Nat.reduceEqDiff,Nat.reduceLT,reduceCtorEq]
   replace j8:=qab j8; subst j8;exact lfj hT8 rfl (wm0 [] (by exact trivial))
  rintro v40 rfl;rw[congrFun hT8 v40];refine zab ?_;try simp only[rnA,Nat.reduceEqDiff,reduceCtorEq]
  cases c9:v40
  ·rw[c9,cond_false]at j4;try simp only[rnA,Nat.reduceEqDiff,Nat.reduceLT,reduceCtorEq]
   exact⟨(w64 (v5+1)),j4,by rw[hT7]; exact wm0 [] (by exact trivial)⟩
  rw[c9,cond_true]at j4;try simp only[rnA,Nat.reduceLT]
  replace j4:=qab j4; subst j4;dsimp only at h;replace h:=qab h; subst h;exact zbe.ret rfl (.lit _)
 rintro⟨⟩ rfl;dsimp only at h;rw[congrFun hT4 ()];refine zab ?_;try simp only[rnA,Nat.reduceLT]
 replace h:=qab h; subst h;exact zbe.ret rfl (.lit _)
def zdM(p0:(List Int)):Nat→Int→Int→Option Int
 | 0,_,_=>none
 | n+1,v1',v6=>(
bif (decide (v6<(p0.length:Int)))then(
(zfl v1' v6).bind fun r3=>
((bif r3 then(
(zaF p0 v6).bind fun x6=>
some (orI .u64 v1' x6))
else(
some v1'):Option Int)).bind fun v1''=>
zdM p0 n v1'' (w64 (v6+1)))
else(
some v1'))
def zdO(p0:(List Int)):Nat→Int→Int→Option Int
 | 0,_,_=>none
 | n+1,v1,v5=>(
bif (decide (v5<(p0.length:Int)))then(
((zdM p0 ((p0.length:Int) - 0+2:Int).toNat v1 0:Option Int)).bind fun v1'=>
zdO p0 n v1' (w64 (v5+1)))
else(
some v1))
def zfS(p0:(List Int))(p1:Int):Option Int:=
((zdO p0 ((p0.length:Int) - 0+2:Int).toNat p1 0:Option Int)).bind fun v1=>
some v1
theorem zq2{p0:(List Int)}{p1:Int}{r:Int}(h:zfS p0 p1=some r):Lx.Fn mC 29 [(fzE false (eI .u64) p0),(dU p1)] (dU r):=by
 refine fnO (by conv=>lhs; cbv) ?_;unfold zfS at h;refine zab ?_;try simp only[rnA,Nat.reduceLT,Nat.reduceAdd]
 obtain⟨o25,j25,h⟩:=bind_some h;obtain⟨T25,hT25⟩:=mkT fun a:Int=>⟨29,[(1,(dU a))],[]⟩
 refine EvL.jn T25 (fun a=>a=o25) ?_ ?_
 ·refine zab ?_;simp only[rnA];obtain⟨T42,hT42⟩:=mkT fun a:(Int×Int)=>⟨29,[(0,(fzE false (eI .u64) p0)),(1,(dU a.1)),(5,(dI a.2))],[]⟩
  refine EvL.rounds (α:=(Int×Int)) T42 (fun n a=>zdO p0 n a.1 a.2=some o25) ((p0.length:Int) - 0+2:Int).toNat (p1,0) (by rw[hT42]; exact wm0 [] (by exact trivial)) j25 (fun _ h=>nomatch (show(none:Option Int)=some o25 from h)) ?_;rintro n ⟨v1,v5⟩ j25;simp only[zdO]at j25;rw[congrFun hT42 (v1,v5)];refine zab ?_;try simp only[rnA,Nat.reduceEqDiff,Nat.reduceLT,reduceCtorEq,zaj]
  cases c1:(decide (v5<(p0.length:Int)))
  ·rw[c1,cond_false]at j25;try simp only[rnA]
   replace j25:=qab j25; subst j25;exact lfj hT25 rfl (wm0 [] (by exact trivial))
  rw[c1,cond_true]at j25;try simp only[rnA,Nat.reduceLT]
  obtain⟨o46,j46,j25⟩:=bind_some j25;obtain⟨T46,hT46⟩:=mkT fun a:Int=>⟨29,[(0,(fzE false (eI .u64) p0)),(1,(dU a)),(5,(dI v5))],[]⟩
  refine EvL.jn T46 (fun a=>a=o46) ?_ ?_
  ·refine zab ?_;simp only[rnA];obtain⟨T49,hT49⟩:=mkT fun a:(Int×Int)=>⟨29,[(0,(fzE false (eI .u64) p0)),(1,(dU a.1)),(5,(dI v5)),(6,(dI a.2))],[]⟩
   refine EvL.rounds (α:=(Int×Int)) T49 (fun n a=>zdM p0 n a.1 a.2=some o46) ((p0.length:Int) - 0+2:Int).toNat (v1,0) (by rw[hT49]; exact wm0 [] (by exact trivial)) j46 (fun _ h=>nomatch (show(none:Option Int)=some o46 from h)) ?_;rintro n ⟨v1',v6⟩ j46;simp only[zdM]at j46;rw[congrFun hT49 (v1',v6)];refine zab ?_;try simp only[rnA,Nat.reduceEqDiff,Nat.reduceLT,reduceCtorEq,zaj]
   cases c2:(decide (v6<(p0.length:Int)))
   ·rw[c2,cond_false]at j46;try simp only[rnA,Nat.reduceEqDiff,Nat.reduceLT,reduceCtorEq]
    replace j46:=qab j46; subst j46;exact lfj hT46 rfl (wm0 [] (by exact trivial))
   rw[c2,cond_true]at j46;obtain⟨r3,g4,j46⟩:=bind_some j46;try simp only[rnA,Nat.reduceEqDiff,Nat.reduceLT,reduceCtorEq]
   refine EvL.fn (zks g4) rfl rfl (.cons (.lit _) (.cons (.lit _) .nil)) ?_;try simp only[rnA,Nat.reduceLT]
   obtain⟨o50,j50,j46⟩:=bind_some j46;obtain⟨T50,hT50⟩:=mkT fun a:Int=>⟨29,[(0,(fzE false (eI .u64) p0)),(1,(dU a)),(5,(dI v5)),(6,(dI v6))],[]⟩
   refine EvL.jn T50 (fun a=>a=o50) ?_ ?_
   ·refine zab ?_;try simp only[rnA,Nat.reduceEqDiff,reduceCtorEq]
    cases c5:r3
    ·rw[c5,cond_false]at j50;try simp only[rnA]
     replace j50:=qab j50; subst j50;exact lfj hT50 rfl (wm0 [] (by exact trivial))
    rw[c5,cond_true]at j50;obtain⟨x6,g7,j50⟩:=bind_some j50;try simp only[rnA,Nat.reduceEqDiff,Nat.reduceLT,reduceCtorEq,zai (n:=1) (e:=(eI .u64)) rfl g7]
    replace j50:=qab j50; subst j50;exact lfj hT50 rfl (wm0 [] (by exact trivial))
   rintro v1'' rfl;rw[congrFun hT50 v1''];refine zab ?_;try simp only[rnA,Nat.reduceEqDiff,Nat.reduceLT,reduceCtorEq]
   exact⟨(v1'',(w64 (v6+1))),j46,by rw[hT49]; exact wm0 [] (by exact trivial)⟩
  rintro v1' rfl;rw[congrFun hT46 v1'];refine zab ?_;try simp only[rnA,Nat.reduceEqDiff,Nat.reduceLT,reduceCtorEq]
  exact⟨(v1',(w64 (v5+1))),j25,by rw[hT42]; exact wm0 [] (by exact trivial)⟩
 rintro v1 rfl;rw[congrFun hT25 v1];refine zab ?_;try simp only[rnA,Nat.reduceEqDiff,Nat.reduceLT]
 replace h:=qab h; subst h;exact zbe.ret rfl (.lit _)
def zbz(p0:(List Int)):Nat→Int→Option (Out Unit Bool)
 | 0,_=>none
 | n+1,v3=>(
bif (decide (v3<(p0.length:Int)))then(
(zaF p0 v3).bind fun x2=>
(zfS p0 x2).bind fun r4=>
(zfl r4 v3).bind fun r6=>
bif r6 then(
some (.ret false))
else(
zbz p0 n (w64 (v3+1))))
else(
some (.go ())))
def zcd(p0:(List Int)):Option Bool:=
((zbz p0 ((p0.length:Int) - 0+2:Int).toNat 0:Option (Out Unit Bool))).bind fun o=>match o with
| .go _=>(
some true)
| .ret r=>some r
theorem zh1{p0:(List Int)}{r:Bool}(h:zcd p0=some r):Lx.Fn mC 50 [(fzE false (eI .u64) p0)] (dB r):=by
 refine fnO (by conv=>lhs; cbv) ?_;unfold zcd at h;refine zab ?_;try simp only[rnA,Nat.reduceLT]
 obtain⟨o1,j1,h⟩:=bind_some h;obtain⟨T1,hT1⟩:=mkT fun a:Unit=>⟨18,[],[]⟩
 refine EvL.jn T1 (fun a=>o1=.go a) ?_ ?_
 ·refine zab ?_;simp only[rnA];obtain⟨T2,hT2⟩:=mkT fun a:Int=>⟨18,[(0,(fzE false (eI .u64) p0)),(3,(dI a))],[]⟩
  refine EvL.rounds (α:=Int) T2 (fun n a=>zbz p0 n a=some o1) ((p0.length:Int) - 0+2:Int).toNat 0 (by rw[hT2]; exact wm0 [] (by exact trivial)) j1 (fun _ h=>nomatch (show(none:Option (Out Unit Bool))=some o1 from h)) ?_;rintro n v3 j1;simp only[zbz]at j1;rw[congrFun hT2 v3];refine zab ?_;try simp only[rnA,Nat.reduceEqDiff,Nat.reduceLT,reduceCtorEq,zaj]
  cases c1:(decide (v3<(p0.length:Int)))
  ·rw[c1,cond_false]at j1;try simp only[rnA]
   replace j1:=qab j1; subst j1;exact lfj hT1 rfl (wm0 [] (by exact trivial))
  rw[c1,cond_true]at j1;obtain⟨x2,g3,j1⟩:=bind_some j1;obtain⟨r4,g5,j1⟩:=bind_some j1;try simp only[rnA,Nat.reduceEqDiff,Nat.reduceLT,reduceCtorEq,zai (n:=1) (e:=(eI .u64)) rfl g3]
  refine EvL.fn (zq2 g5) rfl rfl (.cons (zao _ _ (fun h=>nomatch h)) (.cons (.lit _) .nil)) ?_;obtain⟨r6,g7,j1⟩:=bind_some j1;try simp only[rnA,Nat.reduceEqDiff,Nat.reduceLT,reduceCtorEq]
  refine EvL.fn (zks g7) rfl rfl (.cons (.lit _) (.cons (.lit _) .nil)) ?_;try simp only[rnA,Nat.reduceEqDiff,Nat.reduceLT,reduceCtorEq]
  cases c8:r6
  ·rw[c8,cond_false]at j1;try simp only[rnA,Nat.reduceEqDiff,Nat.reduceLT,reduceCtorEq]
   exact⟨(w64 (v3+1)),j1,by rw[hT2]; exact wm0 [] (by exact trivial)⟩
  rw[c8,cond_true]at j1;try simp only[rnA,Nat.reduceLT]
  replace j1:=qab j1; subst j1;dsimp only at h;replace h:=qab h; subst h;exact zbe.ret rfl (.lit _)
 rintro⟨⟩ rfl;dsimp only at h;rw[congrFun hT1 ()];refine zab ?_;try simp only[rnA,Nat.reduceLT]
 replace h:=qab h; subst h;exact zbe.ret rfl (.lit _)
def zbJ(p0:S_api_Net):Nat→Int→Int→Option (Out Int Bool)
 | 0,_,_=>none
 | n+1,v3,v4=>(
bif (decide (v4<(p0.nodes.length:Int)))then(
(zaF p0.nodes v4).bind fun x6=>
((bif (decide (x6.card<1))then(
some true)
else(
bif (decide (4<x6.card))then(
some true)
else(
(zdh x6.parents (p0.nodes.length:Int)).bind fun r10=>
some (!r10))):Option Bool)).bind fun v59=>
bif v59 then(
some (.ret false))
else(
zbJ p0 n (w64 (v3 * x6.card)) (w64 (v4+1))))
else(
some (.go v3)))
def zb6(x28:(List Int))(p0:S_api_Net):Nat→Int→Int→Option (Out Int Bool)
 | 0,_,_=>none
 | n+1,v9,v10=>(
bif (decide (v10<(x28.length:Int)))then(
(((zaF x28 v10).bind fun x32=>
bif (decide (x32<0))then(
some true)
else(
some (decide (p0.grain<x32))):Option Bool)).bind fun v139=>
bif v139 then(
some (.ret false))
else(
(zaF x28 v10).bind fun x36=>
zb6 x28 p0 n (w64 (v9+x36)) (w64 (v10+1))))
else(
some (.go v9)))
def zb4(x20:S_api_Node)(p0:S_api_Net):Nat→Int→Option (Out Unit Bool)
 | 0,_=>none
 | n+1,v8=>(
bif (decide (v8<(x20.rows.length:Int)))then(
(zaF x20.rows v8).bind fun x28=>
bif ((x28.length:Int)== x20.card)then(
((zb6 x28 p0 ((x28.length:Int) - 0+2:Int).toNat 0 0:Option (Out Int Bool))).bind fun o=>match o with
| .go v9=>(
bif (v9 == p0.grain)then(
zb4 x20 p0 n (w64 (v8+1)))
else(
some (.ret false)))
| .ret r=>some (.ret r))
else(
some (.ret false)))
else(
some (.go ())))
def zb8(p0:S_api_Net):Nat→Int→Option (Out Unit Bool)
 | 0,_=>none
 | n+1,v6=>(
bif (decide (v6<(p0.nodes.length:Int)))then(
(zaF p0.nodes v6).bind fun x20=>
(zaE p0 v6).bind fun r22=>
(zc0 r22).bind fun r24=>
bif ((x20.rows.length:Int)== r24)then(
((zb4 x20 p0 ((x20.rows.length:Int) - 0+2:Int).toNat 0:Option (Out Unit Bool))).bind fun o=>match o with
| .go _=>(
zb8 p0 n (w64 (v6+1)))
| .ret r=>some (.ret r))
else(
some (.ret false)))
else(
some (.go ())))
def zcZ(p0:S_api_Net):Option Bool:=
((bif (decide (p0.grain<1))then(
some true)
else(
bif (decide (60<p0.grain))then(
some true)
else(
bif (decide ((p0.nodes.length:Int)<1))then(
some true)
else(
some (decide (8<(p0.nodes.length:Int)))))):Option Bool)).bind fun v30=>
bif v30 then(
some false)
else(
((zbJ p0 ((p0.nodes.length:Int) - 0+2:Int).toNat 1 0:Option (Out Int Bool))).bind fun o=>match o with
| .go v3=>(
((bif (decide (1024<v3))then(
some true)
else(
(zbV p0).bind fun r14=>
(zcd r14).bind fun r16=>
some (!r16)):Option Bool)).bind fun v71=>
bif v71 then(
some false)
else(
((zb8 p0 ((p0.nodes.length:Int) - 0+2:Int).toNat 0:Option (Out Unit Bool))).bind fun o=>match o with
| .go _=>(
some true)
| .ret r=>some r))
| .ret r=>some r)
def zhE:C:=
 .seq (rg [oW 1 0,
 oJ 2 false])
 (.seq (.seq (.scope (rg [oF 11 0 1,
 oL 12 11,
 oD 13 .lss 12 1,
 oM 14 13,
 oFg 15 0 1 14 false,
 oLg 16 15 14 false,
 oDg 17 .gtr 16 60 14 false,
 oP 18 14 17,
 oM 19 18,
 oFg 20 1 1 19 false,
 oLg 21 20 19 false,
 ⟨some 22,.len (.s 21),some (19,false)⟩,
 oDg 23 .lss 22 1 19 false,
 oP 24 19 23,
 oM 25 24,
 oFg 26 1 1 25 false,
 oLg 27 26 25 false,
 ⟨some 28,.len (.s 27),some (25,false)⟩,
 oDg 29 .gtr 28 8 25 false,
 oP 30 25 29]))
 (.cond (.s 30) (.seq (rg [oJ 2 false])
 (.ret))
 (.skip)))
 (.seq (rg [oK 3 1])
 (.seq (.seq (rg [oK 4 0])
 (.scope (.block 0 (.loop (.seq (.seq (rg [oM 31 4,
 oF 32 1 1,
 oL 33 32,
 oE 34 33,
 oB 35 .lss 31 34])
 (.cond (.s 35) (.skip)
 (.exit 0)))
 (.seq (.block 1 (.seq (rg [oF 38 1 1,
 oL 39 38,
 oM 40 4,
 oI 41 3 39 40,
 oN 42 3 41,
 ⟨some 5,.alloc [(.int .i64 0),(.slice none 0 0),(.slice none 0 0)],none⟩,
 oS 3 5 42])
 (.seq (.seq (.scope (rg [oF 43 0 5,
 oL 44 43,
 oD 45 .lss 44 1,
 oM 46 45,
 oFg 47 0 5 46 false,
 oLg 48 47 46 false,
 oDg 49 .gtr 48 4 46 false,
 oP 50 46 49,
 oM 51 50,
 oFg 52 1 5 51 false,
 oLg 53 52 51 false,
 oFg 54 1 1 51 false,
 oLg 55 54 51 false,
 ⟨some 56,.len (.s 55),some (51,false)⟩,
 ⟨some 57,.call 49 [(.s 53),(.s 56)],some (51,false)⟩,
 ⟨some 58,.un .not (.s 57),some (51,false)⟩,
 oP 59 51 58]))
 (.cond (.s 59) (.seq (rg [oJ 2 false])
 (.ret))
 (.skip)))
 (rg [oM 60 3,
 oF 61 0 5,
 oL 62 61,
 oB 63 .mul 60 62,
 oM 3 63]))))
 (rg [oM 36 4,
 oD 37 .add 36 1,
 oM 4 37])))))))
 (.seq (.seq (.scope (rg [oM 64 3,
 oD 65 .gtr 64 1024,
 oM 66 65,
 ⟨some 67,.load (some 2) (.s 1),some (66,false)⟩,
 ⟨some 68,.call 22 [(.s 67)],some (66,false)⟩,
 ⟨some 69,.call 50 [(.s 68)],some (66,false)⟩,
 ⟨some 70,.un .not (.s 69),some (66,false)⟩,
 oP 71 66 70]))
 (.cond (.s 71) (.seq (rg [oJ 2 false])
 (.ret))
 (.skip)))
 (.seq (.seq (rg [oK 6 0])
 (.scope (.block 2 (.loop (.seq (.seq (rg [oM 72 6,
 oF 73 1 1,
 oL 74 73,
 oE 75 74,
 oB 76 .lss 72 75])
 (.cond (.s 76) (.skip)
 (.exit 2)))
 (.seq (.block 3 (.seq (rg [oF 79 1 1,
 oL 80 79,
 oM 81 6,
 oI 82 3 80 81,
 oN 83 3 82,
 ⟨some 7,.alloc [(.int .i64 0),(.slice none 0 0),(.slice none 0 0)],none⟩,
 oS 3 7 83])
 (.seq (.seq (.reg true true [oF 84 2 7,
 oL 85 84,
 oE 86 85,
 oN 87 2 1,
 oM 88 6,
 oV 89 52 87 88,
 oU 90 51 89,
 oB 91 .neq 86 90])
 (.cond (.s 91) (.seq (rg [oJ 2 false])
 (.ret))
 (.skip)))
 (.seq (rg [oK 8 0])
 (.scope (.block 4 (.loop (.seq (.seq (rg [oM 92 8,
 oF 93 2 7,
 oL 94 93,
 oE 95 94,
 oB 96 .lss 92 95])
 (.cond (.s 96) (.skip)
 (.exit 4)))
 (.seq (.block 5 (.seq (.seq (.reg true false [oF 99 2 7,
 oL 100 99,
 oM 101 8,
 oI 102 1 100 101,
 oL 103 102,
 oE 104 103,
 oF 105 0 7,
 oL 106 105,
 oB 107 .neq 104 106])
 (.cond (.s 107) (.seq (rg [oJ 2 false])
 (.ret))
 (.skip)))
 (.seq (rg [oK 9 0])
 (.seq (.seq (rg [oK 10 0])
 (.scope (.block 6 (.loop (.seq (.seq (rg [oM 108 10,
 oF 109 2 7,
 oL 110 109,
 oM 111 8,
 oI 112 1 110 111,
 oL 113 112,
 oE 114 113,
 oB 115 .lss 108 114])
 (.cond (.s 115) (.skip)
 (.exit 6)))
 (.seq (.block 7 (.seq (.seq (.scope (.reg true false [oF 118 2 7,
 oL 119 118,
 oM 120 8,
 oI 121 1 119 120,
 oL 122 121,
 oM 123 10,
 oI 124 1 122 123,
 oL 125 124,
 oD 126 .lss 125 0,
 oM 127 126,
 oFg 128 2 7 127 false,
 oLg 129 128 127 false,
 oMg 130 8 127 false,
 ⟨some 131,.idxS 1 (.s 129) (.s 130),some (127,false)⟩,
 oLg 132 131 127 false,
 oMg 133 10 127 false,
 ⟨some 134,.idxS 1 (.s 132) (.s 133),some (127,false)⟩,
 oLg 135 134 127 false,
 oFg 136 0 1 127 false,
 oLg 137 136 127 false,
 ⟨some 138,.bin .gtr (.s 135) (.s 137),some (127,false)⟩,
 oP 139 127 138]))
 (.cond (.s 139) (.seq (rg [oJ 2 false])
 (.ret))
 (.skip)))
 (rg [oM 140 9,
 oF 141 2 7,
 oL 142 141,
 oM 143 8,
 oI 144 1 142 143,
 oL 145 144,
 oM 146 10,
 oI 147 1 145 146,
 oL 148 147,
 oB 149 .add 140 148,
 oM 9 149])))
 (rg [oM 116 10,
 oD 117 .add 116 1,
 oM 10 117])))))))
 (.seq (rg [oM 150 9,
 oF 151 0 1,
 oL 152 151,
 oB 153 .neq 150 152])
 (.cond (.s 153) (.seq (rg [oJ 2 false])
 (.ret))
 (.skip)))))))
 (rg [oM 97 8,
 oD 98 .add 97 1,
 oM 8 98]))))))))))
 (rg [oM 77 6,
 oD 78 .add 77 1,
 oM 6 78])))))))
 (.seq (rg [oJ 2 true])
 (.ret)))))))
theorem zjD:zjK mC 7=some (154,zhE,[.tmp 2],false):=zbT (by kernel_rfl)
theorem zkt{p0:S_api_Net}{r:Bool}(h:zcZ p0=some r):Lx.Fn mC 7 [(.agg [(dI p0.grain),(fzE false zaa p0.nodes)])] (dB r):=by
 refine Fn.of zjD (zbE rfl) (qah rfl) ?_;unfold zcZ at h;simp only[zhE,zeJ];refine zab ?_;try simp only[rnA,Nat.reduceLT]
 obtain⟨o1,j1,h⟩:=bind_some h;obtain⟨T1,hT1⟩:=mkT fun a:Bool=>⟨154,[(1,(.ptr 0 0)),(30,(dB a))],[.cells [(dI p0.grain),(fzE false zaa p0.nodes)]]⟩
 refine EvL.jn T1 (fun a=>a=o1) ?_ ?_
 ·refine zab ?_;try simp only[rnA,Nat.reduceEqDiff,Nat.reduceLT,reduceCtorEq]
  cases c1:(decide (p0.grain<1))
  ·rw[c1,cond_false]at j1;try simp only[rnA,Nat.reduceEqDiff,Nat.reduceLT,reduceCtorEq]
   cases c2:(decide (60<p0.grain))
   ·rw[c2,cond_false]at j1;try simp only[rnA,Nat.reduceEqDiff,Nat.reduceLT,reduceCtorEq,zaj]
    cases c3:(decide ((p0.nodes.length:Int)<1))
    ·rw[c3,cond_false]at j1;try simp only[rnA,Nat.reduceEqDiff,Nat.reduceLT,reduceCtorEq,zaj]
     replace j1:=qab j1; subst j1;exact lfj hT1 rfl (wm0 [.k] ⟨MB.cs ⟨qcK,qcK,qcK⟩,qcK⟩)
    rw[c3,cond_true]at j1;try simp only[rnA,Nat.reduceEqDiff,Nat.reduceLT,reduceCtorEq]
    replace j1:=qab j1; subst j1;exact lfj hT1 rfl (wm0 [.k] ⟨MB.cs ⟨qcK,qcK,qcK⟩,qcK⟩)
   rw[c2,cond_true]at j1;try simp only[rnA,Nat.reduceEqDiff,Nat.reduceLT,reduceCtorEq]
   replace j1:=qab j1; subst j1;exact lfj hT1 rfl (wm0 [.k] ⟨MB.cs ⟨qcK,qcK,qcK⟩,qcK⟩)
  rw[c1,cond_true]at j1;try simp only[rnA,Nat.reduceEqDiff,Nat.reduceLT,reduceCtorEq]
  replace j1:=qab j1; subst j1;exact lfj hT1 rfl (wm0 [.k] ⟨MB.cs ⟨qcK,qcK,qcK⟩,qcK⟩)
 rintro v30 rfl;rw[congrFun hT1 v30];refine zab ?_;try simp only[rnA,Nat.reduceEqDiff]
 cases c4:v30
 ·rw[c4,cond_false]at h;try simp only[rnA,Nat.reduceLT]
  obtain⟨o5,j5,h⟩:=bind_some h;obtain⟨T5,hT5⟩:=mkT fun a:Int=>⟨154,[(1,(.ptr 0 0)),(3,(dI a))],[.cells [(dI p0.grain),(fzE false zaa p0.nodes)]]⟩
  refine EvL.jn T5 (fun a=>o5=.go a) ?_ ?_
  ·refine zab ?_;simp only[rnA];obtain⟨T8,hT8⟩:=mkT fun a:(Int×Int)=>⟨154,[(1,(.ptr 0 0)),(3,(dI a.1)),(4,(dI a.2))],[.cells [(dI p0.grain),(fzE false zaa p0.nodes)]]⟩
   refine EvL.rounds (α:=(Int×Int)) T8 (fun n a=>zbJ p0 n a.1 a.2=some o5) ((p0.nodes.length:Int) - 0+2:Int).toNat (1,0) (by rw[hT8]; exact wm0 [.k] ⟨MB.cs ⟨qcK,qcK,qcK⟩,qcK⟩) j5 (fun _ h=>nomatch (show(none:Option (Out Int Bool))=some o5 from h)) ?_;rintro n ⟨v3,v4⟩ j5;simp only[zbJ]at j5;rw[congrFun hT8 (v3,v4)];refine zab ?_;try simp only[rnA,Nat.reduceEqDiff,Nat.reduceLT,zaj]
   cases c5:(decide (v4<(p0.nodes.length:Int)))
   ·rw[c5,cond_false]at j5;try simp only[rnA]
    replace j5:=qab j5; subst j5;exact lfj hT5 rfl (wm0 [.k] ⟨MB.cs ⟨qcK,qcK,qcK⟩,qcK⟩)
   rw[c5,cond_true]at j5;obtain⟨x6,g7,j5⟩:=bind_some j5;try simp only[rnA,Nat.reduceEqDiff,Nat.reduceLT,Nat.reduceAdd,Nat.reduceLeDiff,zac,zai (n:=3) (e:=zaa) rfl g7]
   obtain⟨o9,j9,j5⟩:=bind_some j5;obtain⟨T9,hT9⟩:=mkT fun a:Bool=>⟨154,[(1,(.ptr 0 0)),(3,(dI v3)),(4,(dI v4)),(5,(.ptr 1 0)),(59,(dB a))],[.cells [(dI p0.grain),(fzE false zaa p0.nodes)],.cells [(dI x6.card),(fzE false (eI .i64) x6.parents),(fzE false (eL (eI .i64)) x6.rows)]]⟩
   refine EvL.jn T9 (fun a=>a=o9) ?_ ?_
   ·refine zab ?_;try simp only[rnA,Nat.reduceEqDiff,Nat.reduceLT]
    cases c8:(decide (x6.card<1))
    ·rw[c8,cond_false]at j9;try simp only[rnA,Nat.reduceEqDiff,Nat.reduceLT]
     cases c9:(decide (4<x6.card))
     ·rw[c9,cond_false]at j9;obtain⟨r10,g11,j9⟩:=bind_some j9;try simp only[rnA,Nat.reduceEqDiff,Nat.reduceLT,zaj]
      refine EvL.fn (zjS g11) rfl rfl (.cons (zao _ _ (fun h=>nomatch h)) (.cons (.lit _) .nil)) ?_;try simp only[rnA,Nat.reduceEqDiff,Nat.reduceLT]
      replace j9:=qab j9; subst j9;exact lfj hT9 rfl (wm0 [.k,.k] ⟨MB.cs ⟨qcK,qcK,qcK⟩,⟨MB.cs ⟨qcK,qcK,qcK,qcK⟩,qcK⟩⟩)
     rw[c9,cond_true]at j9;try simp only[rnA,Nat.reduceEqDiff,Nat.reduceLT]
     refine EvL.skip rfl ?_;try simp only[rnA,Nat.reduceEqDiff,Nat.reduceLT]
     replace j9:=qab j9; subst j9;exact lfj hT9 rfl (wm0 [.k,.k] ⟨MB.cs ⟨qcK,qcK,qcK⟩,⟨MB.cs ⟨qcK,qcK,qcK,qcK⟩,qcK⟩⟩)
    rw[c8,cond_true]at j9;try simp only[rnA,Nat.reduceEqDiff,Nat.reduceLT]
    refine EvL.skip rfl ?_;try simp only[rnA,Nat.reduceEqDiff,Nat.reduceLT]
    replace j9:=qab j9; subst j9;exact lfj hT9 rfl (wm0 [.k,.k] ⟨MB.cs ⟨qcK,qcK,qcK⟩,⟨MB.cs ⟨qcK,qcK,qcK,qcK⟩,qcK⟩⟩)
   rintro v59 rfl;rw[congrFun hT9 v59];refine zab ?_;try simp only[rnA,Nat.reduceEqDiff]
   cases c12:v59
   ·rw[c12,cond_false]at j5;try simp only[rnA,Nat.reduceEqDiff,Nat.reduceLT]
    exact⟨((w64 (v3 * x6.card)),(w64 (v4+1))),j5,by rw[hT8]; exact wm0 [.k] ⟨MB.cs ⟨qcK,qcK,qcK⟩,qcK⟩⟩
   rw[c12,cond_true]at j5;try simp only[rnA,Nat.reduceLT]
   replace j5:=qab j5; subst j5;dsimp only at h;replace h:=qab h; subst h;exact zbe.ret rfl (.lit _)
  rintro v3 rfl;dsimp only at h;rw[congrFun hT5 v3];refine zab ?_;try simp only[rnA]
  obtain⟨o10,j10,h⟩:=bind_some h;obtain⟨T10,hT10⟩:=mkT fun a:Bool=>⟨154,[(1,(.ptr 0 0)),(71,(dB a))],[.cells [(dI p0.grain),(fzE false zaa p0.nodes)]]⟩
  refine EvL.jn T10 (fun a=>a=o10) ?_ ?_
  ·refine zab ?_;try simp only[rnA,Nat.reduceEqDiff,Nat.reduceLT]
   cases c13:(decide (1024<v3))
   ·rw[c13,cond_false]at j10;obtain⟨r14,g15,j10⟩:=bind_some j10;try simp only[rnA,Nat.reduceEqDiff,Nat.reduceLT,Nat.reduceAdd,Nat.reduceLeDiff]
    refine EvL.fn (zgx g15) rfl rfl (.cons (.zcp (.cons (.lit _) (.cons (zao _ _ (fun h=>nomatch h)) .nil))) .nil) ?_;obtain⟨r16,g17,j10⟩:=bind_some j10;try simp only[rnA,Nat.reduceLT]
    refine EvL.fn (zh1 g17) rfl rfl (.cons (zao _ _ (fun h=>nomatch h)) .nil) ?_;try simp only[rnA,Nat.reduceEqDiff,Nat.reduceLT]
    replace j10:=qab j10; subst j10;exact lfj hT10 rfl (wm0 [.k] ⟨MB.cs ⟨qcK,qcK,qcK⟩,qcK⟩)
   rw[c13,cond_true]at j10;try simp only[rnA,Nat.reduceLT]
   refine EvL.skip rfl ?_;try simp only[rnA,Nat.reduceLT]
   refine EvL.skip rfl ?_;try simp only[rnA,Nat.reduceEqDiff,Nat.reduceLT]
   replace j10:=qab j10; subst j10;exact lfj hT10 rfl (wm0 [.k] ⟨MB.cs ⟨qcK,qcK,qcK⟩,qcK⟩)
  rintro v71 rfl;rw[congrFun hT10 v71];refine zab ?_;try simp only[rnA,Nat.reduceEqDiff]
  cases c18:v71
  ·rw[c18,cond_false]at h;try simp only[rnA,Nat.reduceLT]
   obtain⟨o161,j161,h⟩:=bind_some h;obtain⟨T161,hT161⟩:=mkT fun a:Unit=>⟨154,[],[]⟩
   refine EvL.jn T161 (fun a=>o161=.go a) ?_ ?_
   ·refine zab ?_;simp only[rnA];obtain⟨T262,hT262⟩:=mkT fun a:Int=>⟨154,[(1,(.ptr 0 0)),(6,(dI a))],[.cells [(dI p0.grain),(fzE false zaa p0.nodes)]]⟩
    refine EvL.rounds (α:=Int) T262 (fun n a=>zb8 p0 n a=some o161) ((p0.nodes.length:Int) - 0+2:Int).toNat 0 (by rw[hT262]; exact wm0 [.k] ⟨MB.cs ⟨qcK,qcK,qcK⟩,qcK⟩) j161 (fun _ h=>nomatch (show(none:Option (Out Unit Bool))=some o161 from h)) ?_;rintro n v6 j161;simp only[zb8]at j161;rw[congrFun hT262 v6];refine zab ?_;try simp only[rnA,Nat.reduceEqDiff,Nat.reduceLT,zaj]
    cases c19:(decide (v6<(p0.nodes.length:Int)))
    ·rw[c19,cond_false]at j161;try simp only[rnA]
     replace j161:=qab j161; subst j161;exact lfj hT161 rfl (wm0 [] (by exact trivial))
    rw[c19,cond_true]at j161;obtain⟨x20,g21,j161⟩:=bind_some j161;obtain⟨r22,g23,j161⟩:=bind_some j161;try simp only[rnA,Nat.reduceEqDiff,Nat.reduceLT,Nat.reduceAdd,Nat.reduceLeDiff,zac,zai (n:=3) (e:=zaa) rfl g21,zaj]
    refine EvL.fn (zcO g23) rfl rfl (.cons (.zcp (.cons (.lit _) (.cons (zao _ _ (fun h=>nomatch h)) .nil))) (.cons (.lit _) .nil)) ?_;obtain⟨r24,g25,j161⟩:=bind_some j161;try simp only[rnA,Nat.reduceLT]
    refine EvL.fn (zfP g25) rfl rfl (.cons (zao _ _ (fun h=>nomatch h)) .nil) ?_;try simp only[rnA,Nat.reduceEqDiff,Nat.reduceLT]
    cases c26:((x20.rows.length:Int)== r24)
    ·rw[c26,cond_false]at j161;try simp only[rnA,Nat.reduceLT]
     replace j161:=qab j161; subst j161;dsimp only at h;replace h:=qab h; subst h;exact zbe.ret rfl (.lit _)
    rw[c26,cond_true]at j161;try simp only[rnA,Nat.reduceLT]
    obtain⟨o287,j287,j161⟩:=bind_some j161;obtain⟨T287,hT287⟩:=mkT fun a:Unit=>⟨154,[(1,(.ptr 0 0)),(6,(dI v6))],[.cells [(dI p0.grain),(fzE false zaa p0.nodes)]]⟩
    refine EvL.jn T287 (fun a=>o287=.go a) ?_ ?_
    ·refine zab ?_;simp only[rnA];obtain⟨T304,hT304⟩:=mkT fun a:Int=>⟨154,[(1,(.ptr 0 0)),(6,(dI v6)),(7,(.ptr 1 0)),(8,(dI a))],[.cells [(dI p0.grain),(fzE false zaa p0.nodes)],.cells [(dI x20.card),(fzE false (eI .i64) x20.parents),(fzE false (eL (eI .i64)) x20.rows)]]⟩
     refine EvL.rounds (α:=Int) T304 (fun n a=>zb4 x20 p0 n a=some o287) ((x20.rows.length:Int) - 0+2:Int).toNat 0 (by rw[hT304]; exact wm0 [.k,.k] ⟨MB.cs ⟨qcK,qcK,qcK⟩,⟨MB.cs ⟨qcK,qcK,qcK,qcK⟩,qcK⟩⟩) j287 (fun _ h=>nomatch (show(none:Option (Out Unit Bool))=some o287 from h)) ?_;rintro n v8 j287;simp only[zb4]at j287;rw[congrFun hT304 v8];refine zab ?_;try simp only[rnA,Nat.reduceEqDiff,Nat.reduceLT,zaj]
     cases c27:(decide (v8<(x20.rows.length:Int)))
     ·rw[c27,cond_false]at j287;try simp only[rnA,Nat.reduceEqDiff,Nat.reduceLT]
      replace j287:=qab j287; subst j287;exact lfj hT287 rfl (wm0 [.k] ⟨MB.cs ⟨qcK,qcK,qcK⟩,qcK⟩)
     rw[c27,cond_true]at j287;obtain⟨x28,g29,j287⟩:=bind_some j287;try simp only[rnA,Nat.reduceEqDiff,Nat.reduceLT,zai (n:=1) (e:=(eL (eI .i64))) rfl g29,zaj]
     cases c30:((x28.length:Int)== x20.card)
     ·rw[c30,cond_false]at j287;try simp only[rnA,Nat.reduceLT]
      replace j287:=qab j287; subst j287;dsimp only at j161;replace j161:=qab j161; subst j161;dsimp only at h;replace h:=qab h; subst h;exact zbe.ret rfl (.lit _)
     rw[c30,cond_true]at j287;try simp only[rnA,Nat.reduceLT]
     obtain⟨o308,j308,j287⟩:=bind_some j287;obtain⟨T308,hT308⟩:=mkT fun a:Int=>⟨154,[(1,(.ptr 0 0)),(6,(dI v6)),(7,(.ptr 1 0)),(8,(dI v8)),(9,(dI a))],[.cells [(dI p0.grain),(fzE false zaa p0.nodes)],.cells [(dI x20.card),(fzE false (eI .i64) x20.parents),(fzE false (eL (eI .i64)) x20.rows)]]⟩
     refine EvL.jn T308 (fun a=>o308=.go a) ?_ ?_
     ·refine zab ?_;simp only[rnA];obtain⟨T311,hT311⟩:=mkT fun a:(Int×Int)=>⟨154,[(1,(.ptr 0 0)),(6,(dI v6)),(7,(.ptr 1 0)),(8,(dI v8)),(9,(dI a.1)),(10,(dI a.2))],[.cells [(dI p0.grain),(fzE false zaa p0.nodes)],.cells [(dI x20.card),(fzE false (eI .i64) x20.parents),(fzE false (eL (eI .i64)) x20.rows)]]⟩
      refine EvL.rounds (α:=(Int×Int)) T311 (fun n a=>zb6 x28 p0 n a.1 a.2=some o308) ((x28.length:Int) - 0+2:Int).toNat (0,0) (by rw[hT311]; exact wm0 [.k,.k] ⟨MB.cs ⟨qcK,qcK,qcK⟩,⟨MB.cs ⟨qcK,qcK,qcK,qcK⟩,qcK⟩⟩) j308 (fun _ h=>nomatch (show(none:Option (Out Int Bool))=some o308 from h)) ?_;rintro n ⟨v9,v10⟩ j308;simp only[zb6]at j308;rw[congrFun hT311 (v9,v10)];refine zab ?_;try simp only[rnA,Nat.reduceEqDiff,Nat.reduceLT,zai (n:=1) (e:=(eL (eI .i64))) rfl g29,zaj]
      cases c31:(decide (v10<(x28.length:Int)))
      ·rw[c31,cond_false]at j308;try simp only[rnA,Nat.reduceEqDiff,Nat.reduceLT]
       replace j308:=qab j308; subst j308;exact lfj hT308 rfl (wm0 [.k,.k] ⟨MB.cs ⟨qcK,qcK,qcK⟩,⟨MB.cs ⟨qcK,qcK,qcK,qcK⟩,qcK⟩⟩)
      rw[c31,cond_true]at j308;try simp only[rnA]
      obtain⟨o312,j312,j308⟩:=bind_some j308;obtain⟨T312,hT312⟩:=mkT fun a:Bool=>⟨154,[(1,(.ptr 0 0)),(6,(dI v6)),(7,(.ptr 1 0)),(8,(dI v8)),(9,(dI v9)),(10,(dI v10)),(139,(dB a))],[.cells [(dI p0.grain),(fzE false zaa p0.nodes)],.cells [(dI x20.card),(fzE false (eI .i64) x20.parents),(fzE false (eL (eI .i64)) x20.rows)]]⟩
      refine EvL.jn T312 (fun a=>a=o312) ?_ ?_
      ·refine zab ?_;obtain⟨x32,g33,j312⟩:=bind_some j312;try simp only[rnA,Nat.reduceEqDiff,Nat.reduceLT,zai (n:=1) (e:=(eL (eI .i64))) rfl g29,zai (n:=1) (e:=(eI .i64)) rfl g33]
       cases c34:(decide (x32<0))
       ·rw[c34,cond_false]at j312;try simp only[rnA,Nat.reduceEqDiff,Nat.reduceLT,zai (n:=1) (e:=(eL (eI .i64))) rfl g29,zai (n:=1) (e:=(eI .i64)) rfl g33]
        replace j312:=qab j312; subst j312;exact lfj hT312 rfl (wm0 [.k,.k] ⟨MB.cs ⟨qcK,qcK,qcK⟩,⟨MB.cs ⟨qcK,qcK,qcK,qcK⟩,qcK⟩⟩)
       rw[c34,cond_true]at j312;try simp only[rnA,Nat.reduceEqDiff,Nat.reduceLT]
       replace j312:=qab j312; subst j312;exact lfj hT312 rfl (wm0 [.k,.k] ⟨MB.cs ⟨qcK,qcK,qcK⟩,⟨MB.cs ⟨qcK,qcK,qcK,qcK⟩,qcK⟩⟩)
      rintro v139 rfl;rw[congrFun hT312 v139];refine zab ?_;try simp only[rnA,Nat.reduceEqDiff]
      cases c35:v139
      ·rw[c35,cond_false]at j308;obtain⟨x36,g37,j308⟩:=bind_some j308;try simp only[rnA,Nat.reduceEqDiff,Nat.reduceLT,zai (n:=1) (e:=(eL (eI .i64))) rfl g29,zai (n:=1) (e:=(eI .i64)) rfl g37]
       exact⟨((w64 (v9+x36)),(w64 (v10+1))),j308,by rw[hT311]; exact wm0 [.k,.k] ⟨MB.cs ⟨qcK,qcK,qcK⟩,⟨MB.cs ⟨qcK,qcK,qcK,qcK⟩,qcK⟩⟩⟩
      rw[c35,cond_true]at j308;try simp only[rnA,Nat.reduceLT]
      replace j308:=qab j308; subst j308;dsimp only at j287;replace j287:=qab j287; subst j287;dsimp only at j161;replace j161:=qab j161; subst j161;dsimp only at h;replace h:=qab h; subst h;exact zbe.ret rfl (.lit _)
     rintro v9 rfl;dsimp only at j287;rw[congrFun hT308 v9];refine zab ?_;try simp only[rnA,Nat.reduceEqDiff,Nat.reduceLT]
     cases c38:(v9 == p0.grain)
     ·rw[c38,cond_false]at j287;try simp only[rnA,Nat.reduceLT]
      replace j287:=qab j287; subst j287;dsimp only at j161;replace j161:=qab j161; subst j161;dsimp only at h;replace h:=qab h; subst h;exact zbe.ret rfl (.lit _)
     rw[c38,cond_true]at j287;try simp only[rnA,Nat.reduceEqDiff,Nat.reduceLT]
     exact⟨(w64 (v8+1)),j287,by rw[hT304]; exact wm0 [.k,.k] ⟨MB.cs ⟨qcK,qcK,qcK⟩,⟨MB.cs ⟨qcK,qcK,qcK,qcK⟩,qcK⟩⟩⟩
    rintro⟨⟩ rfl;dsimp only at j161;rw[congrFun hT287 ()];refine zab ?_;try simp only[rnA,Nat.reduceEqDiff,Nat.reduceLT]
    exact⟨(w64 (v6+1)),j161,by rw[hT262]; exact wm0 [.k] ⟨MB.cs ⟨qcK,qcK,qcK⟩,qcK⟩⟩
   rintro⟨⟩ rfl;dsimp only at h;rw[congrFun hT161 ()];refine zab ?_;try simp only[rnA,Nat.reduceLT]
   replace h:=qab h; subst h;exact zbe.ret rfl (.lit _)
  rw[c18,cond_true]at h;try simp only[rnA,Nat.reduceLT]
  replace h:=qab h; subst h;exact zbe.ret rfl (.lit _)
 rw[c4,cond_true]at h;try simp only[rnA,Nat.reduceLT]
 replace h:=qab h; subst h;exact zbe.ret rfl (.lit _)
def zdE(y8:(List (List Int))):Nat→Int→(List (List Int))→Option (List (List Int))
 | 0,_,_=>none
 | n+1,v42,l6=>(
bif (decide (v42<(y8.length:Int)))then(
(zaF y8 v42).bind fun x11=>
(zcX x11 0 (zcA (x11.length:Int) 6)).bind fun y13=>
(zd6 24 l6 [y13]).bind fun y15=>
zdE y8 n (w64 (v42+1)) y15)
else(
some l6))
def zdD(y1:(List S_api_Node)):Nat→Int→(List S_api_Node)→Option (List S_api_Node)
 | 0,_,_=>none
 | n+1,v20,l3=>(
bif (decide (v20<(y1.length:Int)))then(
(zaF y1 v20).bind fun x4=>
(zcX x4.parents 0 (zcA (x4.parents.length:Int) 8)).bind fun y6=>
(zcX x4.rows 0 (zcA (x4.rows.length:Int) 20)).bind fun y8=>
((zdE y8 ((y8.length:Int) - 0+2:Int).toNat 0 []:Option (List (List Int)))).bind fun l6=>
(zd6 56 l3 [(S_api_Node.mk x4.card y6 l6)]).bind fun y17=>
zdD y1 n (w64 (v20+1)) y17)
else(
some l3))
def zeS(p0:S_api_Net):Option S_api_Net:=
(zcX p0.nodes 0 (zcA (p0.nodes.length:Int) 9)).bind fun y1=>
((zdD y1 ((y1.length:Int) - 0+2:Int).toNat 0 []:Option (List S_api_Node))).bind fun l3=>
some (S_api_Net.mk p0.grain l3)
theorem zoa{p0:S_api_Net}{r:S_api_Net}(h:zeS p0=some r):Lx.FnA mC 47 [(.agg [(dI p0.grain),(fzE false zaa p0.nodes)])] (.agg [(dI r.grain),(fzE false zaa r.nodes)]):=by
 refine zwB (by conv=>lhs; cbv) ?_;unfold zeS at h;refine zab ?_;obtain⟨y1,g2,h⟩:=bind_some h;try simp only[rnA,Nat.reduceEqDiff,Nat.reduceLT,Nat.reduceAdd,Nat.reduceLeDiff,reduceCtorEq,zaj,ziE (n:=3) (e:=zaa) rfl g2]
 obtain⟨o9,j9,h⟩:=bind_some h;obtain⟨T9,hT9⟩:=mkT fun a:(List S_api_Node)=>⟨65,[(2,(.ptr 1 0)),(3,(.ptr 2 0))],[.gone,.cells [(dI 0),zb3],.cells [(dI p0.grain),(.sl 3 0 3 a.length none a.length)],.grow 3 (a.map (zaa.c false))]⟩
 refine EvL.jn T9 (fun a=>a=o9) ?_ ?_
 ·refine zab ?_;simp only[rnA];obtain⟨T16,hT16⟩:=mkT fun a:(Int×(List S_api_Node))=>⟨65,[(2,(.ptr 1 0)),(3,(.ptr 2 0)),(18,(fzE false zaa y1)),(19,(dI (y1.length:Int))),(20,(dI a.1))],[.gone,.cells [(dI 0),zb3],.cells [(dI p0.grain),(.sl 3 0 3 a.2.length none a.2.length)],.grow 3 (a.2.map (zaa.c false))]⟩
  refine EvL.zec (zbx.zhJ (n:=3) (β:=2) (o:=1) (by decide) rfl rfl) ?_;refine EvL.rounds (α:=(Int×(List S_api_Node))) T16 (fun n a=>zdD y1 n a.1 a.2=some o9) ((y1.length:Int) - 0+2:Int).toNat (0,[]) (by rw[hT16]; exact wm0 [.d,.k,.k,.k] ⟨rfl,⟨MB.cs ⟨qcK,qcK,qcK⟩,⟨MB.cs ⟨qcK,rfl,qcK⟩,⟨MB.gs zaa false [],qcK⟩⟩⟩⟩) j9 (fun _ h=>nomatch (show(none:Option (List S_api_Node))=some o9 from h)) ?_;rintro n ⟨v20,l3⟩ j9;simp only[zdD]at j9;rw[congrFun hT16 (v20,l3)];refine zab ?_;try simp only[rnA,Nat.reduceEqDiff,Nat.reduceLT]
  cases c3:(decide (v20<(y1.length:Int)))
  ·rw[c3,cond_false]at j9;try simp only[rnA]
   replace j9:=qab j9; subst j9;exact lfj hT9 rfl (wm0 [.d,.k,.k,.k] ⟨rfl,⟨MB.cs ⟨qcK,qcK,qcK⟩,⟨MB.cs ⟨qcK,rfl,qcK⟩,⟨MB.gs zaa false l3,qcK⟩⟩⟩⟩)
  rw[c3,cond_true]at j9;obtain⟨x4,g5,j9⟩:=bind_some j9;obtain⟨y6,g7,j9⟩:=bind_some j9;obtain⟨y8,g9,j9⟩:=bind_some j9;try simp only[rnA,Nat.reduceEqDiff,Nat.reduceLT,Nat.reduceAdd,Nat.reduceLeDiff,zac,zai (n:=3) (e:=zaa) rfl g5,zaj,ziE (n:=1) (e:=(eI .i64)) rfl g7,ziE (n:=1) (e:=(eL (eI .i64))) rfl g9]
  obtain⟨o17,j17,j9⟩:=bind_some j9;obtain⟨T17,hT17⟩:=mkT fun a:(List (List Int))=>⟨65,[(2,(.ptr 1 0)),(3,(.ptr 2 0)),(6,(.ptr 5 0)),(18,(fzE false zaa y1)),(19,(dI (y1.length:Int))),(20,(dI v20))],[.gone,.cells [(dI 0),zb3],.cells [(dI p0.grain),(.sl 3 0 3 l3.length none l3.length)],.grow 3 (l3.map (zaa.c false)),.gone,.cells [(dI x4.card),(fzE false (eI .i64) y6),(.sl 6 0 1 a.length none a.length)],.grow 1 (a.map ((eL (eI .i64)).c false))]⟩
  refine EvL.jn T17 (fun a=>a=o17) ?_ ?_
  ·refine zab ?_;simp only[rnA];obtain⟨T18,hT18⟩:=mkT fun a:(Int×(List (List Int)))=>⟨65,[(2,(.ptr 1 0)),(3,(.ptr 2 0)),(6,(.ptr 5 0)),(18,(fzE false zaa y1)),(19,(dI (y1.length:Int))),(20,(dI v20)),(40,(fzE false (eL (eI .i64)) y8)),(41,(dI (y8.length:Int))),(42,(dI a.1))],[.gone,.cells [(dI 0),zb3],.cells [(dI p0.grain),(.sl 3 0 3 l3.length none l3.length)],.grow 3 (l3.map (zaa.c false)),.gone,.cells [(dI x4.card),(fzE false (eI .i64) y6),(.sl 6 0 1 a.2.length none a.2.length)],.grow 1 (a.2.map ((eL (eI .i64)).c false))]⟩
   refine EvL.zec (zbx.zhJ (n:=1) (β:=5) (o:=2) (by decide) rfl rfl) ?_;refine EvL.rounds (α:=(Int×(List (List Int)))) T18 (fun n a=>zdE y8 n a.1 a.2=some o17) ((y8.length:Int) - 0+2:Int).toNat (0,[]) (by rw[hT18]; exact wm0 [.d,.k,.k,.k,.d,.k,.k] ⟨rfl,⟨MB.cs ⟨qcK,qcK,qcK⟩,⟨MB.cs ⟨qcK,rfl,qcK⟩,⟨MB.gs zaa false l3,⟨rfl,⟨MB.cs ⟨qcK,qcK,rfl,qcK⟩,⟨MB.gs (eL (eI .i64)) false [],qcK⟩⟩⟩⟩⟩⟩⟩) j17 (fun _ h=>nomatch (show(none:Option (List (List Int)))=some o17 from h)) ?_;rintro n ⟨v42,l6⟩ j17;simp only[zdE]at j17;rw[congrFun hT18 (v42,l6)];refine zab ?_;try simp only[rnA,Nat.reduceEqDiff,Nat.reduceLT]
   cases c10:(decide (v42<(y8.length:Int)))
   ·rw[c10,cond_false]at j17;try simp only[rnA,Nat.reduceEqDiff,Nat.reduceLT,reduceCtorEq]
    replace j17:=qab j17; subst j17;exact lfj hT17 rfl (wm0 [.d,.k,.k,.k,.d,.k,.k] ⟨rfl,⟨MB.cs ⟨qcK,qcK,qcK⟩,⟨MB.cs ⟨qcK,rfl,qcK⟩,⟨MB.gs zaa false l3,⟨rfl,⟨MB.cs ⟨qcK,qcK,rfl,qcK⟩,⟨MB.gs (eL (eI .i64)) false l6,qcK⟩⟩⟩⟩⟩⟩⟩)
   rw[c10,cond_true]at j17;obtain⟨x11,g12,j17⟩:=bind_some j17;obtain⟨y13,g14,j17⟩:=bind_some j17;obtain⟨y15,g16,j17⟩:=bind_some j17;try simp only[rnA,Nat.reduceEqDiff,Nat.reduceLT,Nat.reduceAdd,Nat.reduceLeDiff,zai (n:=1) (e:=(eL (eI .i64))) rfl g12,zaj,ziE (n:=1) (e:=(eI .i64)) rfl g14,zcL g16,(show l6.length+1=y15.length from zbU g16),(show l6.map ((eL (eI .i64)).c false)++ [[(fzE false (eI .i64) y13)]]=y15.map ((eL (eI .i64)).c false)from zcr g16 ((eL (eI .i64)).c false))]
   exact⟨((w64 (v42+1)),y15),j17,by rw[hT18]; exact wm0 [.d,.k,.k,.k,.d,.k,.k] ⟨rfl,⟨MB.cs ⟨qcK,qcK,qcK⟩,⟨MB.cs ⟨qcK,rfl,qcK⟩,⟨MB.gs zaa false l3,⟨rfl,⟨MB.cs ⟨qcK,qcK,rfl,qcK⟩,⟨MB.gs (eL (eI .i64)) false y15,qcK⟩⟩⟩⟩⟩⟩⟩⟩
  rintro l6 rfl;rw[congrFun hT17 l6];refine zab ?_;obtain⟨y17,g18,j9⟩:=bind_some j9;try simp only[rnA,Nat.reduceEqDiff,Nat.reduceLT,Nat.reduceAdd,Nat.reduceLeDiff,zcL g18,(show l3.length+1=y17.length from zbU g18)]
  exact⟨((w64 (v20+1)),y17),j9,by rw[hT16]; exact wm0 [.d,.k,.k,.k,.d,.d,.f] ⟨rfl,⟨MB.cs ⟨qcK,qcK,qcK⟩,⟨MB.cs ⟨qcK,rfl,qcK⟩,⟨MB.zaN (zuj (e:=zaa) (t:=false) g18 (.cons (.cons (.same trivial) (.cons (.same trivial) (.cons (.fr (zei (e:=(eL (eI .i64))) (t:=false) rfl rfl (.inr rfl) rfl rfl (fun k h=>nomatch h) (fun h=>by cases h<;>contradiction))) .nil))) .nil)),qcK⟩⟩⟩⟩⟩
 rintro l3 rfl;rw[congrFun hT9 l3];refine zab ?_;try simp only[rnA,Nat.reduceEqDiff,Nat.reduceLT,Nat.reduceAdd,Nat.reduceLeDiff]
 replace h:=qab h; subst h;exact zkJ.ret rfl (.zcp (.cons (.lit _) (.cons (zal (e:=zaa) (t:=false) rfl (.inr rfl) rfl rfl (fun k h=>nomatch h) (fun h=>nomatch h)) .nil)))
def zes(N:Nat)(p0:S_api_Net)(p1:S_haruspexref05_Draft)(p2:S_haruspexref05_Bend):Option A3_S_api_Net:=
(zeS p0).bind fun r1=>
(zbn N p1).bind fun r3=>
(zbn N p1).bind fun r5=>
(zlx p2 r5).bind fun r7=>
some (A3_S_api_Net.mk r1 r3 r7)
theorem zmK{N:Nat}{p0:S_api_Net}{p1:S_haruspexref05_Draft}{p2:S_haruspexref05_Bend}{r:A3_S_api_Net}(h:zes N p0 p1 p2=some r):Lx.FnA mC 6 [(.agg [(dI p0.grain),(fzE false zaa p0.nodes)]),(.agg [(dU8 p1.grain),(fzE false zae p1.nodes),(fzE false (eI .u8) p1.order)]),(.agg [(dU8 p2.what),(dU8 p2.at_),(dU8 p2.row),(dI p2.n)])] (.agg [(dI r.a0.grain),(fzE false zaa r.a0.nodes),(dI r.a1.grain),(fzE false zaa r.a1.nodes),(dI r.a2.grain),(fzE false zaa r.a2.nodes)]):=by
 refine zwB (by conv=>lhs; cbv) ?_;unfold zes at h;refine zab ?_;obtain⟨r1,g2,h⟩:=bind_some h;try simp only[rnA,Nat.reduceEqDiff,reduceIte,Nat.reduceLT,Nat.reduceAdd,Nat.reduceLeDiff,Nat.reduceMul,Nat.reduceSub,Int.reduceLE,Int.reduceLT,Int.reduceBEq,Nat.reduceBEq,reduceCtorEq,zaA,zaS,zac,zar,zaY,zb5,zdo]
 refine EvL.fnS (zoa g2) rfl rfl (.cons (Mzs.agg (.cons (.lit _) (.cons (zdU _ _ (fun h=>by cases h<;>contradiction)) .nil))) .nil) ⟨⟨qcK,(zbg _ _),qcK⟩,qcK⟩ ⟨qcK,(zbg _ _),qcK⟩ ?_;obtain⟨r3,g4,h⟩:=bind_some h;try simp only[rnA,Nat.reduceEqDiff,reduceIte,Nat.reduceLT,Nat.reduceAdd,Nat.reduceLeDiff,Nat.reduceMul,Nat.reduceSub,Int.reduceLE,Int.reduceLT,Int.reduceBEq,Nat.reduceBEq,reduceCtorEq,zaA,zaS,zac,zar,zaY,zb5]
 refine EvL.fn (zds g4) rfl rfl (.cons (.zcp (.cons (.lit _) (.cons (zao _ _ (fun h=>nomatch h)) (.cons (zao _ _ (fun h=>nomatch h)) .nil)))) .nil) ?_;obtain⟨r5,g6,h⟩:=bind_some h;try simp only[rnA,Nat.reduceEqDiff,reduceIte,Nat.reduceLT,Nat.reduceAdd,Nat.reduceLeDiff,Nat.reduceMul,Nat.reduceSub,Int.reduceLE,Int.reduceLT,Int.reduceBEq,Nat.reduceBEq,reduceCtorEq,zaA,zaS,zac,zar,zaY,zb5]
 refine EvL.fn (zds g6) rfl rfl (.cons (.zcp (.cons (.lit _) (.cons (zao _ _ (fun h=>nomatch h)) (.cons (zao _ _ (fun h=>nomatch h)) .nil)))) .nil) ?_;obtain⟨r7,g8,h⟩:=bind_some h;try simp only[rnA,Nat.reduceEqDiff,reduceIte,Nat.reduceLT,Nat.reduceAdd,Nat.reduceLeDiff,Nat.reduceMul,Nat.reduceSub,Int.reduceLE,Int.reduceLT,Int.reduceBEq,Nat.reduceBEq,reduceCtorEq,zaA,zaS,zac,zar,zaY,zb5]
 refine EvL.fn (ztI g8) rfl rfl (.cons (.zcp (.cons (.lit _) (.cons (.lit _) (.cons (.lit _) (.cons (.lit _) .nil))))) (.cons (.zcp (.cons (.lit _) (.cons (zao _ _ (fun h=>nomatch h)) .nil))) .nil)) ?_;try simp only[rnA,Nat.reduceEqDiff,reduceIte,Nat.reduceLT,Nat.reduceAdd,Nat.reduceLeDiff,Nat.reduceMul,Nat.reduceSub,Int.reduceLE,Int.reduceLT,Int.reduceBEq,Nat.reduceBEq,reduceCtorEq,zaA,zaS,zac,zar,zaY,zb5]
 replace h:=qab h; subst h;exact zkJ.ret rfl (.zcp (.cons (.lit _) (.cons (zao _ _ (fun h=>nomatch h)) (.cons (.lit _) (.cons (zao _ _ (fun h=>nomatch h)) (.cons (.lit _) (.cons (zao _ _ (fun h=>nomatch h)) .nil)))))))
def zdj(p0:S_api_Net):Option Int:=
(zb9 p0).bind fun r1=>
(zc0 r1).bind fun r3=>
some r3
theorem zjL{p0:S_api_Net}{r:Int}(h:zdj p0=some r):Lx.Fn mC 8 [(.agg [(dI p0.grain),(fzE false zaa p0.nodes)])] (dI r):=by
 refine fnO (by conv=>lhs; cbv) ?_;unfold zdj at h;refine zab ?_;obtain⟨r1,g2,h⟩:=bind_some h;try simp only[rnA,Nat.reduceEqDiff,reduceIte,Nat.reduceLT,Nat.reduceAdd,Nat.reduceLeDiff,Nat.reduceMul,Nat.reduceSub,Int.reduceLE,Int.reduceLT,Int.reduceBEq,Nat.reduceBEq,reduceCtorEq,zac,zar,zdo]
 refine EvL.fn (zeL g2) rfl rfl (.cons (.zcp (.cons (.lit _) (.cons (zao _ _ (fun h=>nomatch h)) .nil))) .nil) ?_;obtain⟨r3,g4,h⟩:=bind_some h;try simp only[rnA,Nat.reduceEqDiff,reduceIte,Nat.reduceLT,Nat.reduceAdd,Nat.reduceLeDiff,Nat.reduceMul,Nat.reduceSub,Int.reduceLE,Int.reduceLT,Int.reduceBEq,Nat.reduceBEq,reduceCtorEq,zac,zar]
 refine EvL.fn (zfP g4) rfl rfl (.cons (zao _ _ (fun h=>nomatch h)) .nil) ?_;try simp only[rnA,Nat.reduceEqDiff,reduceIte,Nat.reduceLT,Nat.reduceAdd,Nat.reduceLeDiff,Nat.reduceMul,Nat.reduceSub,Int.reduceLE,Int.reduceLT,Int.reduceBEq,Nat.reduceBEq,reduceCtorEq,zac,zar]
 replace h:=qab h; subst h;exact zbe.ret rfl (.lit _)
def zbw(p0:S_api_Net)(p1:Int):Option ((List Int)×Int):=
(zaO p0).bind fun r1=>
bif (r1.2 == 0)then(
(zbh r1.1.cards p1).bind fun r4=>
some (r4.1,r4.2))
else(
some ([],r1.2))
theorem zj1{p0:S_api_Net}{p1:Int}{r:((List Int)×Int)}(h:zbw p0 p1=some r):Lx.Fn mC 9 [(.agg [(dI p0.grain),(fzE false zaa p0.nodes)]),(dI p1)] (.tup [(fzE true (eI .i64) r.1),(dI r.2)]):=by
 refine fnO (by conv=>lhs; cbv) ?_;unfold zbw at h;refine zab ?_;obtain⟨r1,g2,h⟩:=bind_some h;try simp only[rnA,Nat.reduceEqDiff,reduceIte,Nat.reduceLT,Nat.reduceAdd,Nat.reduceLeDiff,Nat.reduceMul,Nat.reduceSub,Int.reduceLE,Int.reduceLT,Int.reduceBEq,Nat.reduceBEq,reduceCtorEq,zac,zar,zdo]
 refine EvL.fnS (zfH g2) rfl rfl (.cons (Mzs.agg (.cons (.lit _) (.cons (zdU _ _ (fun h=>by cases h<;>contradiction)) .nil))) .nil) ⟨⟨qcK,(zbg _ _),qcK⟩,qcK⟩ ⟨⟨qcK,(zbg _ _),(zbg _ _),(zbg _ _),(zbg _ _),qcK⟩,qcK,qcK⟩ ?_;try simp only[rnA,Nat.reduceEqDiff,reduceIte,Nat.reduceLT,Nat.reduceAdd,Nat.reduceLeDiff,Nat.reduceMul,Nat.reduceSub,Int.reduceLE,Int.reduceLT,Int.reduceBEq,Nat.reduceBEq,reduceCtorEq,zac,zar]
 cases c3:(r1.2 == 0)
 ·rw[c3,cond_false]at h;try simp only[rnA,Nat.reduceEqDiff,reduceIte,Nat.reduceLT,Nat.reduceAdd,Nat.reduceLeDiff,Nat.reduceMul,Nat.reduceSub,Int.reduceLE,Int.reduceLT,Int.reduceBEq,Nat.reduceBEq,reduceCtorEq,zac,zar,c3]
  replace h:=qab h; subst h;exact zbe.ret rfl (Snp.zjM (.cons (zaL (eI .i64)) (.cons (.lit _) .nil)))
 rw[c3,cond_true]at h;obtain⟨r4,g5,h⟩:=bind_some h;try simp only[rnA,Nat.reduceEqDiff,reduceIte,Nat.reduceLT,Nat.reduceAdd,Nat.reduceLeDiff,Nat.reduceMul,Nat.reduceSub,Int.reduceLE,Int.reduceLT,Int.reduceBEq,Nat.reduceBEq,reduceCtorEq,zac,zar,c3]
 refine EvL.fn (zfc g5) rfl rfl (.cons (zao _ _ (fun h=>nomatch h)) (.cons (.lit _) .nil)) ?_;try simp only[rnA,Nat.reduceEqDiff,reduceIte,Nat.reduceLT,Nat.reduceAdd,Nat.reduceLeDiff,Nat.reduceMul,Nat.reduceSub,Int.reduceLE,Int.reduceLT,Int.reduceBEq,Nat.reduceBEq,reduceCtorEq,zac,zar,c3]
 replace h:=qab h; subst h;exact zbe.ret rfl (Snp.zjM (.cons (zao _ _ (fun _=>rfl)) (.cons (.lit _) .nil)))
end Go.Dc
