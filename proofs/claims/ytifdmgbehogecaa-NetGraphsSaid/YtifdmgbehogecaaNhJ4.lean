/-
 What net_Ancestors computes. Conditions: none.
-/
import Derived.Test.YtifdmgbehogecaaNhJ3
import Derived.Test.YtifdmgbehogecaaNhJ2
set_option linter.unusedSimpArgs false
set_option linter.unusedVariables false
set_option maxRecDepth 100000
set_option maxHeartbeats 4000000
namespace Go.Dc
open Go Go.Mx Go.Lx Go.Proofs
def zaL(N:Nat)(p0:S_api_Net)(p1:Int):Option (Int×Int):=
(zbp p0).bind fun r1=>
bif (r1.2 == 0)then(
(zit .u64 p1 (r1.1.net.nodes.length:Int)).bind fun q4=>
bif (q4 == 0)then(
(zcV N r1.1.sets p1).bind fun r7=>
some (r7,0))
else(
some (0,2)))
else(
some (0,r1.2))
theorem zgF{N:Nat}{p0:S_api_Net}{p1:Int}{r:(Int×Int)}(h:zaL N p0 p1=some r):Lx.Fn mC 27 [(.agg [(dI p0.grain),(fzE false zaa p0.nodes)]),(dU p1)] (.tup [(dU r.1),(dI r.2)]):=by
 refine fnO (by conv=>lhs; cbv) ?_;unfold zaL at h;refine zab ?_;obtain⟨r1,g2,h⟩:=bind_some h;try simp only[rnA,Nat.reduceEqDiff,reduceIte,Nat.reduceLT,Nat.reduceAdd,Nat.reduceLeDiff,Nat.reduceMul,Nat.reduceSub,Int.reduceLE,Int.reduceLT,Int.reduceBEq,Nat.reduceBEq,reduceCtorEq,zac,zas,zdh]
 refine EvL.fnS (zc7 g2) rfl rfl (.cons (Mzs.agg (.cons (.lit _) (.cons (zdv _ _ (fun h=>by cases h<;>contradiction)) .nil))) .nil) ⟨⟨qcO,(zaH _ _),qcO⟩,qcO⟩ ⟨⟨qcO,(zaH _ _),(zaH _ _),(zaH _ _),(zaH _ _),qcO⟩,qcO,qcO⟩ ?_;try simp only[rnA,Nat.reduceEqDiff,reduceIte,Nat.reduceLT,Nat.reduceAdd,Nat.reduceLeDiff,Nat.reduceMul,Nat.reduceSub,Int.reduceLE,Int.reduceLT,Int.reduceBEq,Nat.reduceBEq,reduceCtorEq,zac,zas]
 cases c3:(r1.2 == 0)
 ·rw[c3,cond_false]at h;try simp only[rnA,Nat.reduceEqDiff,reduceIte,Nat.reduceLT,Nat.reduceAdd,Nat.reduceLeDiff,Nat.reduceMul,Nat.reduceSub,Int.reduceLE,Int.reduceLT,Int.reduceBEq,Nat.reduceBEq,reduceCtorEq,zac,zas,c3]
  replace h:=qab h; subst h;exact zbq.ret rfl (Snp.zhP (.cons (.lit _) (.cons (.lit _) .nil)))
 rw[c3,cond_true]at h;obtain⟨q4,g5,h⟩:=bind_some h;try simp only[rnA,Nat.reduceEqDiff,reduceIte,Nat.reduceLT,Nat.reduceAdd,Nat.reduceLeDiff,Nat.reduceMul,Nat.reduceSub,Int.reduceLE,Int.reduceLT,Int.reduceBEq,Nat.reduceBEq,reduceCtorEq,zac,zas,zaj,(zbj g5).1,(zbj g5).2,c3]
 cases c6:(q4 == 0)
 ·rw[c6,cond_false]at h;try simp only[rnA,Nat.reduceEqDiff,reduceIte,Nat.reduceLT,Nat.reduceAdd,Nat.reduceLeDiff,Nat.reduceMul,Nat.reduceSub,Int.reduceLE,Int.reduceLT,Int.reduceBEq,Nat.reduceBEq,reduceCtorEq,zac,zas,c3,c6]
  replace h:=qab h; subst h;exact zbq.ret rfl (Snp.zhP (.cons (.lit _) (.cons (.lit _) .nil)))
 rw[c6,cond_true]at h;obtain⟨r7,g8,h⟩:=bind_some h;try simp only[rnA,Nat.reduceEqDiff,reduceIte,Nat.reduceLT,Nat.reduceAdd,Nat.reduceLeDiff,Nat.reduceMul,Nat.reduceSub,Int.reduceLE,Int.reduceLT,Int.reduceBEq,Nat.reduceBEq,reduceCtorEq,zac,zas,c3,c6]
 refine EvL.fn (zfj g8) rfl rfl (.cons (zar _ _ (fun h=>nomatch h)) (.cons (.lit _) .nil)) ?_;try simp only[rnA,Nat.reduceEqDiff,reduceIte,Nat.reduceLT,Nat.reduceAdd,Nat.reduceLeDiff,Nat.reduceMul,Nat.reduceSub,Int.reduceLE,Int.reduceLT,Int.reduceBEq,Nat.reduceBEq,reduceCtorEq,zac,zas,c3,c6]
 replace h:=qab h; subst h;exact zbq.ret rfl (Snp.zhP (.cons (.lit _) (.cons (.lit _) .nil)))
def zbf(r1:(S_net_network×Int))(x10:Int)(v34:Int):Nat→Int→(List Int)→Option (List Int)
 | 0,_,_=>none
 | n+1,v41,l2'=>(
bif (decide (v41<(((Int.toNat (r1.1.sets.length:Int)):Nat):Int)))then(
(zaK l2' v41).bind fun x13=>
(zit .u64 x10 v41).bind fun q15=>
(zhO .u64 (zgv .u64 q15 1) v34).bind fun q17=>
(zgm l2' v41 (orI .u64 x13 q17)).bind fun y19=>
zbf r1 x10 v34 n (w64 (v41+1)) y19)
else(
some l2'))
def zbe(r1:(S_net_network×Int)):Nat→Int→(List Int)→Option (List Int)
 | 0,_,_=>none
 | n+1,v34,l2=>(
bif (decide (v34<(r1.1.sets.length:Int)))then(
(zaK r1.1.sets v34).bind fun x10=>
((zbf r1 x10 v34 ((((Int.toNat (r1.1.sets.length:Int)):Nat):Int) - 0+2:Int).toNat 0 l2:Option (List Int))).bind fun l2'=>
zbe r1 n (w64 (v34+1)) l2')
else(
some l2))
def zaC(N:Nat)(p0:S_api_Net)(p1:Int):Option (Int×Int):=
(zbp p0).bind fun r1=>
bif (r1.2 == 0)then(
(zit .u64 p1 (r1.1.net.nodes.length:Int)).bind fun q4=>
bif (q4 == 0)then(
(zgd 8 (r1.1.sets.length:Int) 0).bind fun y7=>
((zbe r1 ((r1.1.sets.length:Int) - 0+2:Int).toNat 0 y7:Option (List Int))).bind fun l2=>
(zcV N l2 p1).bind fun r21=>
some (r21,0))
else(
some (0,2)))
else(
some (0,r1.2))
theorem zge{N:Nat}{p0:S_api_Net}{p1:Int}{r:(Int×Int)}(h:zaC N p0 p1=some r):Lx.Fn mC 28 [(.agg [(dI p0.grain),(fzE false zaa p0.nodes)]),(dU p1)] (.tup [(dU r.1),(dI r.2)]):=by
 refine fnO (by conv=>lhs; cbv) ?_;unfold zaC at h;refine zab ?_;obtain⟨r1,g2,h⟩:=bind_some h;try simp only[rnA,Nat.reduceEqDiff,Nat.reduceLT,Nat.reduceAdd,Nat.reduceLeDiff,reduceCtorEq]
 refine EvL.fnS (zc7 g2) rfl rfl (.cons (Mzs.agg (.cons (.lit _) (.cons (zdv _ _ (fun h=>by cases h<;>contradiction)) .nil))) .nil) ⟨⟨qcO,(zaH _ _),qcO⟩,qcO⟩ ⟨⟨qcO,(zaH _ _),(zaH _ _),(zaH _ _),(zaH _ _),qcO⟩,qcO,qcO⟩ ?_;try simp only[rnA,Nat.reduceEqDiff,Nat.reduceLT,Nat.reduceAdd,Nat.reduceLeDiff,reduceCtorEq]
 cases c3:(r1.2 == 0)
 ·rw[c3,cond_false]at h;try simp only[rnA,Nat.reduceEqDiff,Nat.reduceLT,reduceCtorEq]
  replace h:=qab h; subst h;exact zbq.ret rfl (Snp.zhP (.cons (.lit _) (.cons (.lit _) .nil)))
 rw[c3,cond_true]at h;obtain⟨q4,g5,h⟩:=bind_some h;try simp only[rnA,Nat.reduceEqDiff,Nat.reduceLT,reduceCtorEq,zaj,(zbj g5).1,(zbj g5).2]
 cases c6:(q4 == 0)
 ·rw[c6,cond_false]at h;try simp only[rnA,Nat.reduceLT]
  replace h:=qab h; subst h;exact zbq.ret rfl (Snp.zhP (.cons (.lit _) (.cons (.lit _) .nil)))
 rw[c6,cond_true]at h;obtain⟨y7,g8,h⟩:=bind_some h;try simp only[rnA,Nat.reduceEqDiff,Nat.reduceLT,Nat.reduceAdd,reduceCtorEq,zaj,(zbt g8).1.1,(zbt g8).1.2,qb5,(show List.replicate (Int.toNat (r1.1.sets.length:Int)) [(dU 0)]=y7.map ((eI .u64).c true)from zdn g8 ((eI .u64).c true))]
 obtain⟨o7,j7,h⟩:=bind_some h;obtain⟨T7,hT7⟩:=mkT fun a:(List Int)=>⟨61,[(1,(dU p1)),(8,(.sl 2 0 1 (Int.toNat (r1.1.sets.length:Int)) (some (Int.toNat (r1.1.sets.length:Int))) (Int.toNat (r1.1.sets.length:Int))))],[.gone,.gone,.els 1 (a.map ((eI .u64).c true))]⟩
 refine EvL.jn T7 (fun a=>a=o7∧a.length=(Int.toNat (r1.1.sets.length:Int))) ?_ ?_
 ·refine zab ?_;simp only[rnA];obtain⟨T12,hT12⟩:=mkT fun a:(Int×(List Int))=>⟨61,[(1,(dU p1)),(8,(.sl 2 0 1 (Int.toNat (r1.1.sets.length:Int)) (some (Int.toNat (r1.1.sets.length:Int))) (Int.toNat (r1.1.sets.length:Int)))),(32,(fzE false (eI .u64) r1.1.sets)),(33,(dI (r1.1.sets.length:Int))),(34,(dI a.1))],[.gone,.gone,.els 1 (a.2.map ((eI .u64).c true))]⟩
  refine EvL.rounds (α:=(Int×(List Int))) T12 (fun n a=>zbe r1 n a.1 a.2=some o7∧a.2.length=(Int.toNat (r1.1.sets.length:Int))) ((r1.1.sets.length:Int) - 0+2:Int).toNat (0,y7) (by rw[hT12]; exact wm0 [.d,.d,.k] ⟨rfl,⟨rfl,⟨MB.es (eI .u64) true y7,qcO⟩⟩⟩) ⟨j7,zcR g8⟩ (fun _ h=>nomatch (show(none:Option (List Int))=some o7 from h.1)) ?_;rintro n ⟨v34,l2⟩ ⟨j7,el2⟩;simp only[zbe]at j7;rw[congrFun hT12 (v34,l2)];refine zab ?_;try simp only[rnA,Nat.reduceEqDiff,Nat.reduceLT]
  cases c9:(decide (v34<(r1.1.sets.length:Int)))
  ·rw[c9,cond_false]at j7;try simp only[rnA]
   replace j7:=qab j7; subst j7;exact⟨_,⟨rfl,el2⟩,by rw[hT7]; exact wm0 [.d,.d,.k] ⟨rfl,⟨rfl,⟨MB.es (eI .u64) true l2,qcO⟩⟩⟩⟩
  rw[c9,cond_true]at j7;obtain⟨x10,g11,j7⟩:=bind_some j7;try simp only[rnA,Nat.reduceEqDiff,Nat.reduceLT,zak (n:=1) (e:=(eI .u64)) rfl g11,el2]
  obtain⟨o13,j13,j7⟩:=bind_some j7;obtain⟨T13,hT13⟩:=mkT fun a:(List Int)=>⟨61,[(1,(dU p1)),(8,(.sl 2 0 1 (Int.toNat (r1.1.sets.length:Int)) (some (Int.toNat (r1.1.sets.length:Int))) (Int.toNat (r1.1.sets.length:Int)))),(32,(fzE false (eI .u64) r1.1.sets)),(33,(dI (r1.1.sets.length:Int))),(34,(dI v34))],[.gone,.gone,.els 1 (a.map ((eI .u64).c true))]⟩
  refine EvL.jn T13 (fun a=>a=o13∧a.length=(Int.toNat (r1.1.sets.length:Int))) ?_ ?_
  ·refine zab ?_;simp only[rnA];obtain⟨T14,hT14⟩:=mkT fun a:(Int×(List Int))=>⟨61,[(1,(dU p1)),(8,(.sl 2 0 1 (Int.toNat (r1.1.sets.length:Int)) (some (Int.toNat (r1.1.sets.length:Int))) (Int.toNat (r1.1.sets.length:Int)))),(9,(dI v34)),(10,(dU x10)),(32,(fzE false (eI .u64) r1.1.sets)),(33,(dI (r1.1.sets.length:Int))),(34,(dI v34)),(40,(dI (((Int.toNat (r1.1.sets.length:Int)):Nat):Int))),(41,(dI a.1))],[.gone,.gone,.els 1 (a.2.map ((eI .u64).c true))]⟩
   refine EvL.rounds (α:=(Int×(List Int))) T14 (fun n a=>zbf r1 x10 v34 n a.1 a.2=some o13∧a.2.length=(Int.toNat (r1.1.sets.length:Int))) ((((Int.toNat (r1.1.sets.length:Int)):Nat):Int) - 0+2:Int).toNat (0,l2) (by rw[hT14]; exact wm0 [.d,.d,.k] ⟨rfl,⟨rfl,⟨MB.es (eI .u64) true l2,qcO⟩⟩⟩) ⟨j13,el2⟩ (fun _ h=>nomatch (show(none:Option (List Int))=some o13 from h.1)) ?_;rintro n ⟨v41,l2'⟩ ⟨j13,el2'⟩;simp only[zbf]at j13;rw[congrFun hT14 (v41,l2')];refine zab ?_;try simp only[rnA,Nat.reduceEqDiff,Nat.reduceLT]
   cases c12:(decide (v41<(((Int.toNat (r1.1.sets.length:Int)):Nat):Int)))
   ·rw[c12,cond_false]at j13;try simp only[rnA,Nat.reduceEqDiff,Nat.reduceLT,reduceCtorEq]
    replace j13:=qab j13; subst j13;exact⟨_,⟨rfl,el2'⟩,by rw[hT13]; exact wm0 [.d,.d,.k] ⟨rfl,⟨rfl,⟨MB.es (eI .u64) true l2',qcO⟩⟩⟩⟩
   rw[c12,cond_true]at j13;obtain⟨x13,g14,j13⟩:=bind_some j13;obtain⟨q15,g16,j13⟩:=bind_some j13;obtain⟨q17,g18,j13⟩:=bind_some j13;obtain⟨y19,g20,j13⟩:=bind_some j13;try simp only[rnA,Nat.reduceEqDiff,Nat.reduceLT,Nat.reduceLeDiff,el2',zbz g14,(show v41<(((Int.toNat (r1.1.sets.length:Int)):Nat):Int)from el2' ▸ zbS g14),zbi g14 ((eI .u64).c true),(zbj g16).2,(zaY g18).1,(zaY g18).2,(show(l2'.map ((eI .u64).c true)).set v41.toNat [(dU (orI .u64 x13 q17))]=y19.map ((eI .u64).c true)from zci g20 ((eI .u64).c true))]
   exact⟨((w64 (v41+1)),y19),⟨j13,(zb2 g20).trans el2'⟩,by rw[hT14]; exact wm0 [.d,.d,.k] ⟨rfl,⟨rfl,⟨MB.es (eI .u64) true y19,qcO⟩⟩⟩⟩
  rintro l2' ⟨rfl,el2'⟩;rw[congrFun hT13 l2'];refine zab ?_;try simp only[rnA,Nat.reduceEqDiff,Nat.reduceLT]
  exact⟨((w64 (v34+1)),l2'),⟨j7,el2'⟩,by rw[hT12]; exact wm0 [.d,.d,.k] ⟨rfl,⟨rfl,⟨MB.es (eI .u64) true l2',qcO⟩⟩⟩⟩
 rintro l2 ⟨rfl,el2⟩;rw[congrFun hT7 l2];refine zab ?_;obtain⟨r21,g22,h⟩:=bind_some h;try simp only[rnA,Nat.reduceEqDiff,Nat.reduceLT]
 refine EvL.fn (zfj g22) rfl rfl (.cons (zan (e:=(eI .u64)) (t:=true) rfl (.inl rfl) (el2).symm (el2).symm (fun k h=>by cases h; exact qal _) (fun h=>nomatch h)) (.cons (.lit _) .nil)) ?_;try simp only[rnA,Nat.reduceEqDiff,Nat.reduceLT]
 replace h:=qab h; subst h;exact zbq.ret rfl (Snp.zhP (.cons (.lit _) (.cons (.lit _) .nil)))
def za3(p0:S_api_Net)(p1:Int):Option (Int×Int):=
(zbp p0).bind fun r1=>
bif (r1.2 == 0)then(
((bif (decide (p1<0))then(
some true)
else(
some (decide ((r1.1.net.nodes.length:Int)≤p1))):Option Bool)).bind fun v25=>
bif v25 then(
some (0,2))
else(
(zaS r1.1).bind fun r6=>
(zaK r6 p1).bind fun x8=>
some (x8,0)))
else(
some (0,r1.2))
theorem zhS{p0:S_api_Net}{p1:Int}{r:(Int×Int)}(h:za3 p0 p1=some r):Lx.Fn mC 26 [(.agg [(dI p0.grain),(fzE false zaa p0.nodes)]),(dI p1)] (.tup [(dU r.1),(dI r.2)]):=by
 refine fnO (by conv=>lhs; cbv) ?_;unfold za3 at h;refine zab ?_;obtain⟨r1,g2,h⟩:=bind_some h;try simp only[rnA,Nat.reduceEqDiff,Nat.reduceLT,Nat.reduceAdd,Nat.reduceLeDiff,reduceCtorEq]
 refine EvL.fnS (zc7 g2) rfl rfl (.cons (Mzs.agg (.cons (.lit _) (.cons (zdv _ _ (fun h=>by cases h<;>contradiction)) .nil))) .nil) ⟨⟨qcO,(zaH _ _),qcO⟩,qcO⟩ ⟨⟨qcO,(zaH _ _),(zaH _ _),(zaH _ _),(zaH _ _),qcO⟩,qcO,qcO⟩ ?_;try simp only[rnA,Nat.reduceEqDiff,Nat.reduceLT,Nat.reduceAdd,Nat.reduceLeDiff,reduceCtorEq]
 cases c3:(r1.2 == 0)
 ·rw[c3,cond_false]at h;try simp only[rnA,Nat.reduceEqDiff,Nat.reduceLT,reduceCtorEq]
  replace h:=qab h; subst h;exact zbq.ret rfl (Snp.zhP (.cons (.lit _) (.cons (.lit _) .nil)))
 rw[c3,cond_true]at h;try simp only[rnA]
 obtain⟨o1,j1,h⟩:=bind_some h;obtain⟨T1,hT1⟩:=mkT fun a:Bool=>⟨31,[(1,(dI p1)),(6,(.ptr 1 0)),(25,(dB a))],[.gone,.cells [(dI r1.1.net.grain),(fzE false zaa r1.1.net.nodes),(fzE false (eI .i64) r1.1.cards),(fzE false (eI .u64) r1.1.sets),(fzE false (eI .i64) r1.1.order)]]⟩
 refine EvL.jn T1 (fun a=>a=o1) ?_ ?_
 ·refine zab ?_;try simp only[rnA,Nat.reduceEqDiff,Nat.reduceLT,reduceCtorEq]
  cases c4:(decide (p1<0))
  ·rw[c4,cond_false]at j1;try simp only[rnA,Nat.reduceEqDiff,Nat.reduceLT,reduceCtorEq,zaj]
   replace j1:=qab j1; subst j1;exact lfj hT1 rfl (wm0 [.d,.k] ⟨rfl,⟨MB.cs ⟨qcO,qcO,qcO,qcO,qcO,qcO⟩,qcO⟩⟩)
  rw[c4,cond_true]at j1;try simp only[rnA,Nat.reduceEqDiff,Nat.reduceLT,reduceCtorEq]
  replace j1:=qab j1; subst j1;exact lfj hT1 rfl (wm0 [.d,.k] ⟨rfl,⟨MB.cs ⟨qcO,qcO,qcO,qcO,qcO,qcO⟩,qcO⟩⟩)
 rintro v25 rfl;rw[congrFun hT1 v25];refine zab ?_;try simp only[rnA,Nat.reduceEqDiff]
 cases c5:v25
 ·rw[c5,cond_false]at h;obtain⟨r6,g7,h⟩:=bind_some h;try simp only[rnA,Nat.reduceEqDiff,Nat.reduceLT,Nat.reduceAdd,Nat.reduceLeDiff]
  refine EvL.fn (zdw g7) rfl rfl (.cons (.zcX (.cons (.lit _) (.cons (zar _ _ (fun h=>nomatch h)) (.cons (zar _ _ (fun h=>nomatch h)) (.cons (zar _ _ (fun h=>nomatch h)) (.cons (zar _ _ (fun h=>nomatch h)) .nil)))))) .nil) ?_;obtain⟨x8,g9,h⟩:=bind_some h;try simp only[rnA,Nat.reduceEqDiff,Nat.reduceLT,zak (n:=1) (e:=(eI .u64)) rfl g9]
  replace h:=qab h; subst h;exact zbq.ret rfl (Snp.zhP (.cons (.lit _) (.cons (.lit _) .nil)))
 rw[c5,cond_true]at h;try simp only[rnA,Nat.reduceLT]
 replace h:=qab h; subst h;exact zbq.ret rfl (Snp.zhP (.cons (.lit _) (.cons (.lit _) .nil)))
def zbk(p0:(List Int))(p1:Int):Nat→Int→Option (Out Unit Bool)
 | 0,_=>none
 | n+1,v5=>(
bif (decide (v5<(p0.length:Int)))then(
(((zaK p0 v5).bind fun x2=>
bif (decide (x2<0))then(
some true)
else(
bif (decide (p1≤x2))then(
some true)
else(
bif (decide (0<v5))then(
(zaK p0 (w64 (v5 - 1))).bind fun x7=>
some (decide (x2≤x7)))
else(
some false))):Option Bool)).bind fun v40=>
bif v40 then(
some (.ret false))
else(
zbk p0 p1 n (w64 (v5+1))))
else(
some (.go ())))
def zdo(p0:(List Int))(p1:Int):Option Bool:=
((zbk p0 p1 ((p0.length:Int) - 0+2:Int).toNat 0:Option (Out Unit Bool))).bind fun o=>match o with
| .go _=>(
some true)
| .ret r=>some r
def zgu:C:=
 .seq (rg [oJ 4 false])
 (.seq (.seq (rg [oK 5 0])
 (.scope (.block 0 (.loop (.seq (.seq (rg [oM 6 5,
 oM 7 0,
 oE 8 7,
 oB 9 .lss 6 8])
 (.cond (.s 9) (.skip)
 (.exit 0)))
 (.seq (.block 1 (.seq (.scope (.reg true false [oM 12 0,
 oM 13 5,
 oI 14 1 12 13,
 oL 15 14,
 oD 16 .lss 15 0,
 oM 17 16,
 oMg 18 0 17 false,
 oMg 19 5 17 false,
 ⟨some 20,.idxS 1 (.s 18) (.s 19),some (17,false)⟩,
 oLg 21 20 17 false,
 oMg 22 1 17 false,
 ⟨some 23,.bin .geq (.s 21) (.s 22),some (17,false)⟩,
 oP 24 17 23,
 oM 25 24,
 oMg 26 5 25 false,
 oDg 27 .gtr 26 0 25 false,
 oMg 28 27 25 false,
 oMg 29 0 28 true,
 oMg 30 5 28 true,
 ⟨some 31,.idxS 1 (.s 29) (.s 30),some (28,true)⟩,
 oLg 32 31 28 true,
 oMg 33 0 28 true,
 oMg 34 5 28 true,
 oDg 35 .sub 34 1 28 true,
 ⟨some 36,.idxS 1 (.s 33) (.s 35),some (28,true)⟩,
 oLg 37 36 28 true,
 ⟨some 38,.bin .leq (.s 32) (.s 37),some (28,true)⟩,
 ⟨some 39,.pick (.s 28) (.s 38) (.c (.bool false)),some (25,false)⟩,
 oP 40 25 39]))
 (.cond (.s 40) (.seq (rg [oJ 4 false])
 (.ret))
 (.skip))))
 (rg [oM 10 5,
 oD 11 .add 10 1,
 oM 5 11])))))))
 (.seq (rg [oJ 4 true])
 (.ret)))
theorem zhZ:zlk mC 49=some (41,zgu,[.tmp 4],false):=zcT (by kernel_rfl)
theorem ziR{p0:(List Int)}{p1:Int}{r:Bool}(h:zdo p0 p1=some r):Lx.Fn mC 49 [(fzE false (eI .i64) p0),(dI p1)] (dB r):=by
 refine Fn.of zhZ (zcq rfl) (qah rfl) ?_;unfold zdo at h;simp only[zgu,zfA];refine zab ?_;try simp only[rnA,Nat.reduceLT,Nat.reduceAdd]
 obtain⟨o4,j4,h⟩:=bind_some h;obtain⟨T4,hT4⟩:=mkT fun a:Unit=>⟨41,[],[]⟩
 refine EvL.jn T4 (fun a=>o4=.go a) ?_ ?_
 ·refine zab ?_;simp only[rnA];obtain⟨T7,hT7⟩:=mkT fun a:Int=>⟨41,[(0,(fzE false (eI .i64) p0)),(1,(dI p1)),(5,(dI a))],[]⟩
  refine EvL.rounds (α:=Int) T7 (fun n a=>zbk p0 p1 n a=some o4) ((p0.length:Int) - 0+2:Int).toNat 0 (by rw[hT7]; exact wm0 [] (by exact trivial)) j4 (fun _ h=>nomatch (show(none:Option (Out Unit Bool))=some o4 from h)) ?_;rintro n v5 j4;simp only[zbk]at j4;rw[congrFun hT7 v5];refine zab ?_;try simp only[rnA,Nat.reduceEqDiff,Nat.reduceLT,reduceCtorEq,zaj]
  cases c1:(decide (v5<(p0.length:Int)))
  ·rw[c1,cond_false]at j4;try simp only[rnA]
   replace j4:=qab j4; subst j4;exact lfj hT4 rfl (wm0 [] (by exact trivial))
  rw[c1,cond_true]at j4;try simp only[rnA]
  obtain⟨o8,j8,j4⟩:=bind_some j4;obtain⟨T8,hT8⟩:=mkT fun a:Bool=>⟨41,[(0,(fzE false (eI .i64) p0)),(1,(dI p1)),(5,(dI v5)),(40,(dB a))],[]⟩
  refine EvL.jn T8 (fun a=>a=o8) ?_ ?_
  ·refine zab ?_;obtain⟨x2,g3,j8⟩:=bind_some j8;try simp only[rnA,Nat.reduceEqDiff,Nat.reduceLT,reduceCtorEq,zak (n:=1) (e:=(eI .i64)) rfl g3]
   cases c4:(decide (x2<0))
   ·rw[c4,cond_false]at j8;try simp only[rnA,Nat.reduceEqDiff,Nat.reduceLT,reduceCtorEq,zak (n:=1) (e:=(eI .i64)) rfl g3]
    cases c5:(decide (p1≤x2))
    ·rw[c5,cond_false]at j8;try simp only[rnA,Nat.reduceEqDiff,Nat.reduceLT,reduceCtorEq]
     cases c6:(decide (0<v5))
     ·rw[c6,cond_false]at j8;try simp only[rnA,Nat.reduceEqDiff,Nat.reduceLT,reduceCtorEq]
      replace j8:=qab j8; subst j8;exact lfj hT8 rfl (wm0 [] (by exact trivial))
     rw[c6,cond_true]at j8;obtain⟨x7,g8,j8⟩:=bind_some j8;try simp only[rnA,Nat.reduceEqDiff,Nat.reduceLT,reduceCtorEq,zak (n:=1) (e:=(eI .i64)) rfl g3,zak (n:=1) (e:=(eI .i64)) rfl g8]
     replace j8:=qab j8; subst j8;exact lfj hT8 rfl (wm0 [] (by exact trivial))
    rw[c5,cond_true]at j8;try simp only[rnA,Nat.reduceEqDiff,Nat.reduceLT,reduceCtorEq]
    replace j8:=qab j8; subst j8;exact lfj hT8 rfl (wm0 [] (by exact trivial))
   rw[c4,cond_true]at j8;try simp only[rnA,Nat.reduceEqDiff,Nat.reduceLT,reduceCtorEq]
   replace j8:=qab j8; subst j8;exact lfj hT8 rfl (wm0 [] (by exact trivial))
  rintro v40 rfl;rw[congrFun hT8 v40];refine zab ?_;try simp only[rnA,Nat.reduceEqDiff,reduceCtorEq]
  cases c9:v40
  ·rw[c9,cond_false]at j4;try simp only[rnA,Nat.reduceEqDiff,Nat.reduceLT,reduceCtorEq]
   exact⟨(w64 (v5+1)),j4,by rw[hT7]; exact wm0 [] (by exact trivial)⟩
  rw[c9,cond_true]at j4;try simp only[rnA,Nat.reduceLT]
  replace j4:=qab j4; subst j4;dsimp only at h;replace h:=qab h; subst h;exact zbq.ret rfl (.lit _)
 rintro⟨⟩ rfl;dsimp only at h;rw[congrFun hT4 ()];refine zab ?_;try simp only[rnA,Nat.reduceLT]
 replace h:=qab h; subst h;exact zbq.ret rfl (.lit _)
def zbx(p0:Int)(p1:Int):Option Bool:=
(zit .u64 p0 (IntKind.u64.wrap p1)).bind fun q1=>
some ((zgv .u64 q1 1)== 1)
theorem zdU{p0:Int}{p1:Int}{r:Bool}(h:zbx p0 p1=some r):Lx.Fn mC 61 [(dU p0),(dI p1)] (dB r):=by
 refine fnO (by conv=>lhs; cbv) ?_;unfold zbx at h;refine zab ?_;obtain⟨q1,g2,h⟩:=bind_some h;try simp only[rnA,Nat.reduceEqDiff,reduceIte,Nat.reduceLT,Nat.reduceAdd,Nat.reduceLeDiff,Nat.reduceMul,Nat.reduceSub,Int.reduceLE,Int.reduceLT,Int.reduceBEq,Nat.reduceBEq,reduceCtorEq,(zbj g2).1,(zbj g2).2]
 replace h:=qab h; subst h;exact zbq.ret rfl (.lit _)
def zdN(p0:(List Int)):Nat→Int→Int→Option Int
 | 0,_,_=>none
 | n+1,v1',v6=>(
bif (decide (v6<(p0.length:Int)))then(
(zbx v1' v6).bind fun r3=>
((bif r3 then(
(zaK p0 v6).bind fun x6=>
some (orI .u64 v1' x6))
else(
some v1'):Option Int)).bind fun v1''=>
zdN p0 n v1'' (w64 (v6+1)))
else(
some v1'))
def zdQ(p0:(List Int)):Nat→Int→Int→Option Int
 | 0,_,_=>none
 | n+1,v1,v5=>(
bif (decide (v5<(p0.length:Int)))then(
((zdN p0 ((p0.length:Int) - 0+2:Int).toNat v1 0:Option Int)).bind fun v1'=>
zdQ p0 n v1' (w64 (v5+1)))
else(
some v1))
def zeu(p0:(List Int))(p1:Int):Option Int:=
((zdQ p0 ((p0.length:Int) - 0+2:Int).toNat p1 0:Option Int)).bind fun v1=>
some v1
theorem zj0{p0:(List Int)}{p1:Int}{r:Int}(h:zeu p0 p1=some r):Lx.Fn mC 29 [(fzE false (eI .u64) p0),(dU p1)] (dU r):=by
 refine fnO (by conv=>lhs; cbv) ?_;unfold zeu at h;refine zab ?_;try simp only[rnA,Nat.reduceLT,Nat.reduceAdd]
 obtain⟨o25,j25,h⟩:=bind_some h;obtain⟨T25,hT25⟩:=mkT fun a:Int=>⟨29,[(1,(dU a))],[]⟩
 refine EvL.jn T25 (fun a=>a=o25) ?_ ?_
 ·refine zab ?_;simp only[rnA];obtain⟨T42,hT42⟩:=mkT fun a:(Int×Int)=>⟨29,[(0,(fzE false (eI .u64) p0)),(1,(dU a.1)),(5,(dI a.2))],[]⟩
  refine EvL.rounds (α:=(Int×Int)) T42 (fun n a=>zdQ p0 n a.1 a.2=some o25) ((p0.length:Int) - 0+2:Int).toNat (p1,0) (by rw[hT42]; exact wm0 [] (by exact trivial)) j25 (fun _ h=>nomatch (show(none:Option Int)=some o25 from h)) ?_;rintro n ⟨v1,v5⟩ j25;simp only[zdQ]at j25;rw[congrFun hT42 (v1,v5)];refine zab ?_;try simp only[rnA,Nat.reduceEqDiff,Nat.reduceLT,reduceCtorEq,zaj]
  cases c1:(decide (v5<(p0.length:Int)))
  ·rw[c1,cond_false]at j25;try simp only[rnA]
   replace j25:=qab j25; subst j25;exact lfj hT25 rfl (wm0 [] (by exact trivial))
  rw[c1,cond_true]at j25;try simp only[rnA,Nat.reduceLT]
  obtain⟨o46,j46,j25⟩:=bind_some j25;obtain⟨T46,hT46⟩:=mkT fun a:Int=>⟨29,[(0,(fzE false (eI .u64) p0)),(1,(dU a)),(5,(dI v5))],[]⟩
  refine EvL.jn T46 (fun a=>a=o46) ?_ ?_
  ·refine zab ?_;simp only[rnA];obtain⟨T49,hT49⟩:=mkT fun a:(Int×Int)=>⟨29,[(0,(fzE false (eI .u64) p0)),(1,(dU a.1)),(5,(dI v5)),(6,(dI a.2))],[]⟩
   refine EvL.rounds (α:=(Int×Int)) T49 (fun n a=>zdN p0 n a.1 a.2=some o46) ((p0.length:Int) - 0+2:Int).toNat (v1,0) (by rw[hT49]; exact wm0 [] (by exact trivial)) j46 (fun _ h=>nomatch (show(none:Option Int)=some o46 from h)) ?_;rintro n ⟨v1',v6⟩ j46;simp only[zdN]at j46;rw[congrFun hT49 (v1',v6)];refine zab ?_;try simp only[rnA,Nat.reduceEqDiff,Nat.reduceLT,reduceCtorEq,zaj]
   cases c2:(decide (v6<(p0.length:Int)))
   ·rw[c2,cond_false]at j46;try simp only[rnA,Nat.reduceEqDiff,Nat.reduceLT,reduceCtorEq]
    replace j46:=qab j46; subst j46;exact lfj hT46 rfl (wm0 [] (by exact trivial))
   rw[c2,cond_true]at j46;obtain⟨r3,g4,j46⟩:=bind_some j46;try simp only[rnA,Nat.reduceEqDiff,Nat.reduceLT,reduceCtorEq]
   refine EvL.fn (zdU g4) rfl rfl (.cons (.lit _) (.cons (.lit _) .nil)) ?_;try simp only[rnA,Nat.reduceLT]
   obtain⟨o50,j50,j46⟩:=bind_some j46;obtain⟨T50,hT50⟩:=mkT fun a:Int=>⟨29,[(0,(fzE false (eI .u64) p0)),(1,(dU a)),(5,(dI v5)),(6,(dI v6))],[]⟩
   refine EvL.jn T50 (fun a=>a=o50) ?_ ?_
   ·refine zab ?_;try simp only[rnA,Nat.reduceEqDiff,reduceCtorEq]
    cases c5:r3
    ·rw[c5,cond_false]at j50;try simp only[rnA]
     replace j50:=qab j50; subst j50;exact lfj hT50 rfl (wm0 [] (by exact trivial))
    rw[c5,cond_true]at j50;obtain⟨x6,g7,j50⟩:=bind_some j50;try simp only[rnA,Nat.reduceEqDiff,Nat.reduceLT,reduceCtorEq,zak (n:=1) (e:=(eI .u64)) rfl g7]
    replace j50:=qab j50; subst j50;exact lfj hT50 rfl (wm0 [] (by exact trivial))
   rintro v1'' rfl;rw[congrFun hT50 v1''];refine zab ?_;try simp only[rnA,Nat.reduceEqDiff,Nat.reduceLT,reduceCtorEq]
   exact⟨(v1'',(w64 (v6+1))),j46,by rw[hT49]; exact wm0 [] (by exact trivial)⟩
  rintro v1' rfl;rw[congrFun hT46 v1'];refine zab ?_;try simp only[rnA,Nat.reduceEqDiff,Nat.reduceLT,reduceCtorEq]
  exact⟨(v1',(w64 (v5+1))),j25,by rw[hT42]; exact wm0 [] (by exact trivial)⟩
 rintro v1 rfl;rw[congrFun hT25 v1];refine zab ?_;try simp only[rnA,Nat.reduceEqDiff,Nat.reduceLT]
 replace h:=qab h; subst h;exact zbq.ret rfl (.lit _)
def zcz(p0:(List Int)):Nat→Int→Int→Option Int
 | 0,_,_=>none
 | n+1,v1',v6=>(
bif (decide (v6<(p0.length:Int)))then(
(zaK p0 v6).bind fun x3=>
((bif ((zgv .u64 x3 v1')== 0)then(
some v1')
else(
(zhO .u64 1 (IntKind.u64.wrap v6)).bind fun q6=>
some (orI .u64 v1' q6)):Option Int)).bind fun v1''=>
zcz p0 n v1'' (w64 (v6+1)))
else(
some v1'))
def zcx(p0:(List Int)):Nat→Int→Int→Option Int
 | 0,_,_=>none
 | n+1,v1,v5=>(
bif (decide (v5<(p0.length:Int)))then(
((zcz p0 ((p0.length:Int) - 0+2:Int).toNat v1 0:Option Int)).bind fun v1'=>
zcx p0 n v1' (w64 (v5+1)))
else(
some v1))
def zdC(p0:(List Int))(p1:Int):Option Int:=
((zcx p0 ((p0.length:Int) - 0+2:Int).toNat p1 0:Option Int)).bind fun v1=>
some v1
theorem zlF{p0:(List Int)}{p1:Int}{r:Int}(h:zdC p0 p1=some r):Lx.Fn mC 30 [(fzE false (eI .u64) p0),(dU p1)] (dU r):=by
 refine fnO (by conv=>lhs; cbv) ?_;unfold zdC at h;refine zab ?_;try simp only[rnA,Nat.reduceLT,Nat.reduceAdd]
 obtain⟨o25,j25,h⟩:=bind_some h;obtain⟨T25,hT25⟩:=mkT fun a:Int=>⟨32,[(1,(dU a))],[]⟩
 refine EvL.jn T25 (fun a=>a=o25) ?_ ?_
 ·refine zab ?_;simp only[rnA];obtain⟨T42,hT42⟩:=mkT fun a:(Int×Int)=>⟨32,[(0,(fzE false (eI .u64) p0)),(1,(dU a.1)),(5,(dI a.2))],[]⟩
  refine EvL.rounds (α:=(Int×Int)) T42 (fun n a=>zcx p0 n a.1 a.2=some o25) ((p0.length:Int) - 0+2:Int).toNat (p1,0) (by rw[hT42]; exact wm0 [] (by exact trivial)) j25 (fun _ h=>nomatch (show(none:Option Int)=some o25 from h)) ?_;rintro n ⟨v1,v5⟩ j25;simp only[zcx]at j25;rw[congrFun hT42 (v1,v5)];refine zab ?_;try simp only[rnA,Nat.reduceEqDiff,Nat.reduceLT,reduceCtorEq,zaj]
  cases c1:(decide (v5<(p0.length:Int)))
  ·rw[c1,cond_false]at j25;try simp only[rnA]
   replace j25:=qab j25; subst j25;exact lfj hT25 rfl (wm0 [] (by exact trivial))
  rw[c1,cond_true]at j25;try simp only[rnA,Nat.reduceLT]
  obtain⟨o46,j46,j25⟩:=bind_some j25;obtain⟨T46,hT46⟩:=mkT fun a:Int=>⟨32,[(0,(fzE false (eI .u64) p0)),(1,(dU a)),(5,(dI v5))],[]⟩
  refine EvL.jn T46 (fun a=>a=o46) ?_ ?_
  ·refine zab ?_;simp only[rnA];obtain⟨T49,hT49⟩:=mkT fun a:(Int×Int)=>⟨32,[(0,(fzE false (eI .u64) p0)),(1,(dU a.1)),(5,(dI v5)),(6,(dI a.2))],[]⟩
   refine EvL.rounds (α:=(Int×Int)) T49 (fun n a=>zcz p0 n a.1 a.2=some o46) ((p0.length:Int) - 0+2:Int).toNat (v1,0) (by rw[hT49]; exact wm0 [] (by exact trivial)) j46 (fun _ h=>nomatch (show(none:Option Int)=some o46 from h)) ?_;rintro n ⟨v1',v6⟩ j46;simp only[zcz]at j46;rw[congrFun hT49 (v1',v6)];refine zab ?_;try simp only[rnA,Nat.reduceEqDiff,Nat.reduceLT,reduceCtorEq,zaj]
   cases c2:(decide (v6<(p0.length:Int)))
   ·rw[c2,cond_false]at j46;try simp only[rnA,Nat.reduceEqDiff,Nat.reduceLT,reduceCtorEq]
    replace j46:=qab j46; subst j46;exact lfj hT46 rfl (wm0 [] (by exact trivial))
   rw[c2,cond_true]at j46;obtain⟨x3,g4,j46⟩:=bind_some j46;try simp only[rnA,Nat.reduceEqDiff,Nat.reduceLT,reduceCtorEq,zak (n:=1) (e:=(eI .u64)) rfl g4]
   obtain⟨o50,j50,j46⟩:=bind_some j46;obtain⟨T50,hT50⟩:=mkT fun a:Int=>⟨32,[(0,(fzE false (eI .u64) p0)),(1,(dU a)),(5,(dI v5)),(6,(dI v6))],[]⟩
   refine EvL.jn T50 (fun a=>a=o50) ?_ ?_
   ·refine zab ?_;try simp only[rnA,Nat.reduceEqDiff,reduceCtorEq]
    cases c5:((zgv .u64 x3 v1')== 0)
    ·rw[c5,cond_false]at j50;obtain⟨q6,g7,j50⟩:=bind_some j50;try simp only[rnA,Nat.reduceEqDiff,Nat.reduceLT,reduceCtorEq,(zaY g7).1,(zaY g7).2]
     replace j50:=qab j50; subst j50;exact lfj hT50 rfl (wm0 [] (by exact trivial))
    rw[c5,cond_true]at j50;try simp only[rnA]
    replace j50:=qab j50; subst j50;exact lfj hT50 rfl (wm0 [] (by exact trivial))
   rintro v1'' rfl;rw[congrFun hT50 v1''];refine zab ?_;try simp only[rnA,Nat.reduceEqDiff,Nat.reduceLT,reduceCtorEq]
   exact⟨(v1'',(w64 (v6+1))),j46,by rw[hT49]; exact wm0 [] (by exact trivial)⟩
  rintro v1' rfl;rw[congrFun hT46 v1'];refine zab ?_;try simp only[rnA,Nat.reduceEqDiff,Nat.reduceLT,reduceCtorEq]
  exact⟨(v1',(w64 (v5+1))),j25,by rw[hT42]; exact wm0 [] (by exact trivial)⟩
 rintro v1 rfl;rw[congrFun hT25 v1];refine zab ?_;try simp only[rnA,Nat.reduceEqDiff,Nat.reduceLT]
 replace h:=qab h; subst h;exact zbq.ret rfl (.lit _)
def zbE(p0:(List Int)):Nat→Int→Option (Out Unit Bool)
 | 0,_=>none
 | n+1,v3=>(
bif (decide (v3<(p0.length:Int)))then(
(zaK p0 v3).bind fun x2=>
(zeu p0 x2).bind fun r4=>
(zbx r4 v3).bind fun r6=>
bif r6 then(
some (.ret false))
else(
zbE p0 n (w64 (v3+1))))
else(
some (.go ())))
def zcf(p0:(List Int)):Option Bool:=
((zbE p0 ((p0.length:Int) - 0+2:Int).toNat 0:Option (Out Unit Bool))).bind fun o=>match o with
| .go _=>(
some true)
| .ret r=>some r
theorem zhX{p0:(List Int)}{r:Bool}(h:zcf p0=some r):Lx.Fn mC 50 [(fzE false (eI .u64) p0)] (dB r):=by
 refine fnO (by conv=>lhs; cbv) ?_;unfold zcf at h;refine zab ?_;try simp only[rnA,Nat.reduceLT]
 obtain⟨o1,j1,h⟩:=bind_some h;obtain⟨T1,hT1⟩:=mkT fun a:Unit=>⟨18,[],[]⟩
 refine EvL.jn T1 (fun a=>o1=.go a) ?_ ?_
 ·refine zab ?_;simp only[rnA];obtain⟨T2,hT2⟩:=mkT fun a:Int=>⟨18,[(0,(fzE false (eI .u64) p0)),(3,(dI a))],[]⟩
  refine EvL.rounds (α:=Int) T2 (fun n a=>zbE p0 n a=some o1) ((p0.length:Int) - 0+2:Int).toNat 0 (by rw[hT2]; exact wm0 [] (by exact trivial)) j1 (fun _ h=>nomatch (show(none:Option (Out Unit Bool))=some o1 from h)) ?_;rintro n v3 j1;simp only[zbE]at j1;rw[congrFun hT2 v3];refine zab ?_;try simp only[rnA,Nat.reduceEqDiff,Nat.reduceLT,reduceCtorEq,zaj]
  cases c1:(decide (v3<(p0.length:Int)))
  ·rw[c1,cond_false]at j1;try simp only[rnA]
   replace j1:=qab j1; subst j1;exact lfj hT1 rfl (wm0 [] (by exact trivial))
  rw[c1,cond_true]at j1;obtain⟨x2,g3,j1⟩:=bind_some j1;obtain⟨r4,g5,j1⟩:=bind_some j1;try simp only[rnA,Nat.reduceEqDiff,Nat.reduceLT,reduceCtorEq,zak (n:=1) (e:=(eI .u64)) rfl g3]
  refine EvL.fn (zj0 g5) rfl rfl (.cons (zar _ _ (fun h=>nomatch h)) (.cons (.lit _) .nil)) ?_;obtain⟨r6,g7,j1⟩:=bind_some j1;try simp only[rnA,Nat.reduceEqDiff,Nat.reduceLT,reduceCtorEq]
  refine EvL.fn (zdU g7) rfl rfl (.cons (.lit _) (.cons (.lit _) .nil)) ?_;try simp only[rnA,Nat.reduceEqDiff,Nat.reduceLT,reduceCtorEq]
  cases c8:r6
  ·rw[c8,cond_false]at j1;try simp only[rnA,Nat.reduceEqDiff,Nat.reduceLT,reduceCtorEq]
   exact⟨(w64 (v3+1)),j1,by rw[hT2]; exact wm0 [] (by exact trivial)⟩
  rw[c8,cond_true]at j1;try simp only[rnA,Nat.reduceLT]
  replace j1:=qab j1; subst j1;dsimp only at h;replace h:=qab h; subst h;exact zbq.ret rfl (.lit _)
 rintro⟨⟩ rfl;dsimp only at h;rw[congrFun hT1 ()];refine zab ?_;try simp only[rnA,Nat.reduceLT]
 replace h:=qab h; subst h;exact zbq.ret rfl (.lit _)
def zbo(p0:S_api_Net)(v4:Int):Nat→Int→Int→Option Int
 | 0,_,_=>none
 | n+1,v5,v6=>(
(zaK p0.nodes v4).bind fun x2=>
bif (decide (v6<(x2.parents.length:Int)))then(
(zaK x2.parents v6).bind fun x5=>
(zhO .u64 1 (IntKind.u64.wrap x5)).bind fun q7=>
zbo p0 v4 n (orI .u64 v5 q7) (w64 (v6+1)))
else(
some v5))
def zbn(p0:S_api_Net):Nat→Int→(List Int)→Option (List Int)
 | 0,_,_=>none
 | n+1,v4,l1=>(
bif (decide (v4<(p0.nodes.length:Int)))then(
((zbo p0 v4 ((((zaK p0.nodes v4).getD default).parents.length:Int) - 0+2:Int).toNat 0 0:Option Int)).bind fun v5=>
(zd7 8 l1 [v5]).bind fun y11=>
zbn p0 n (w64 (v4+1)) y11)
else(
some l1))
def za6(p0:S_api_Net):Option (List Int):=
((zbn p0 ((p0.nodes.length:Int) - 0+2:Int).toNat 0 []:Option (List Int))).bind fun l1=>
some l1
theorem zeh{p0:S_api_Net}{r:(List Int)}(h:za6 p0=some r):Lx.Fn mC 22 [(.agg [(dI p0.grain),(fzE false zaa p0.nodes)])] (fzE true (eI .u64) r):=by
 refine fnO (by conv=>lhs; cbv) ?_;unfold za6 at h;refine zab ?_;try simp only[rnA,Nat.reduceLT]
 obtain⟨o9,j9,h⟩:=bind_some h;obtain⟨T9,hT9⟩:=mkT fun a:(List Int)=>⟨43,[(3,(.sl 1 0 1 a.length none a.length))],[.gone,.grow 1 (a.map ((eI .u64).c true))]⟩
 refine EvL.jn T9 (fun a=>a=o9) ?_ ?_
 ·refine zab ?_;simp only[rnA];obtain⟨T16,hT16⟩:=mkT fun a:(Int×(List Int))=>⟨43,[(1,(.ptr 0 0)),(3,(.sl 1 0 1 a.2.length none a.2.length)),(4,(dI a.1))],[.cells [(dI p0.grain),(fzE false zaa p0.nodes)],.grow 1 (a.2.map ((eI .u64).c true))]⟩
  refine EvL.zed (zbD.ghost (n:=1) (k:=3) (by decide) rfl) ?_;refine EvL.rounds (α:=(Int×(List Int))) T16 (fun n a=>zbn p0 n a.1 a.2=some o9) ((p0.nodes.length:Int) - 0+2:Int).toNat (0,[]) (by rw[hT16]; exact wm0 [.k,.k] ⟨MB.cs ⟨qcO,qcO,qcO⟩,⟨MB.gs (eI .u64) true [],qcO⟩⟩) j9 (fun _ h=>nomatch (show(none:Option (List Int))=some o9 from h)) ?_;rintro n ⟨v4,l1⟩ j9;simp only[zbn]at j9;rw[congrFun hT16 (v4,l1)];refine zab ?_;try simp only[rnA,Nat.reduceEqDiff,Nat.reduceLT,zaj]
  cases c1:(decide (v4<(p0.nodes.length:Int)))
  ·rw[c1,cond_false]at j9;try simp only[rnA]
   replace j9:=qab j9; subst j9;exact lfj hT9 rfl (wm0 [.d,.k] ⟨rfl,⟨MB.gs (eI .u64) true l1,qcO⟩⟩)
  rw[c1,cond_true]at j9;try simp only[rnA,Nat.reduceLT]
  obtain⟨o17,j17,j9⟩:=bind_some j9;obtain⟨T17,hT17⟩:=mkT fun a:Int=>⟨43,[(1,(.ptr 0 0)),(3,(.sl 1 0 1 l1.length none l1.length)),(4,(dI v4)),(5,(dU a))],[.cells [(dI p0.grain),(fzE false zaa p0.nodes)],.grow 1 (l1.map ((eI .u64).c true))]⟩
  refine EvL.jn T17 (fun a=>a=o17) ?_ ?_
  ·refine zab ?_;simp only[rnA];obtain⟨T18,hT18⟩:=mkT fun a:(Int×Int)=>⟨43,[(1,(.ptr 0 0)),(3,(.sl 1 0 1 l1.length none l1.length)),(4,(dI v4)),(5,(dU a.1)),(6,(dI a.2))],[.cells [(dI p0.grain),(fzE false zaa p0.nodes)],.grow 1 (l1.map ((eI .u64).c true))]⟩
   refine EvL.rounds (α:=(Int×Int)) T18 (fun n a=>zbo p0 v4 n a.1 a.2=some o17) ((((zaK p0.nodes v4).getD default).parents.length:Int) - 0+2:Int).toNat (0,0) (by rw[hT18]; exact wm0 [.k,.k] ⟨MB.cs ⟨qcO,qcO,qcO⟩,⟨MB.gs (eI .u64) true l1,qcO⟩⟩) j17 (fun _ h=>nomatch (show(none:Option Int)=some o17 from h)) ?_;rintro n ⟨v5,v6⟩ j17;simp only[zbo]at j17;rw[congrFun hT18 (v5,v6)];refine zab ?_;obtain⟨x2,g3,j17⟩:=bind_some j17;try simp only[rnA,Nat.reduceEqDiff,Nat.reduceLT,Nat.reduceAdd,Nat.reduceLeDiff,zac,zak (n:=3) (e:=zaa) rfl g3,zaj]
   cases c4:(decide (v6<(x2.parents.length:Int)))
   ·rw[c4,cond_false]at j17;try simp only[rnA,Nat.reduceEqDiff,Nat.reduceLT,reduceCtorEq]
    replace j17:=qab j17; subst j17;exact lfj hT17 rfl (wm0 [.k,.k] ⟨MB.cs ⟨qcO,qcO,qcO⟩,⟨MB.gs (eI .u64) true l1,qcO⟩⟩)
   rw[c4,cond_true]at j17;obtain⟨x5,g6,j17⟩:=bind_some j17;obtain⟨q7,g8,j17⟩:=bind_some j17;try simp only[rnA,Nat.reduceEqDiff,Nat.reduceLT,Nat.reduceAdd,Nat.reduceLeDiff,zac,zak (n:=3) (e:=zaa) rfl g3,zak (n:=1) (e:=(eI .i64)) rfl g6,(zaY g8).1,(zaY g8).2]
   exact⟨((orI .u64 v5 q7),(w64 (v6+1))),j17,by rw[hT18]; exact wm0 [.k,.k] ⟨MB.cs ⟨qcO,qcO,qcO⟩,⟨MB.gs (eI .u64) true l1,qcO⟩⟩⟩
  rintro v5 rfl;rw[congrFun hT17 v5];refine zab ?_;obtain⟨y11,g12,j9⟩:=bind_some j9;try simp only[rnA,Nat.reduceEqDiff,Nat.reduceLT,Nat.reduceAdd,Nat.reduceLeDiff,zcS g12,(show l1.length+1=y11.length from zbT g12),(show l1.map ((eI .u64).c true)++ [[(dU v5)]]=y11.map ((eI .u64).c true)from zcr g12 ((eI .u64).c true))]
  exact⟨((w64 (v4+1)),y11),j9,by rw[hT16]; exact wm0 [.k,.k] ⟨MB.cs ⟨qcO,qcO,qcO⟩,⟨MB.gs (eI .u64) true y11,qcO⟩⟩⟩
 rintro l1 rfl;rw[congrFun hT9 l1];refine zab ?_;try simp only[rnA,Nat.reduceEqDiff,Nat.reduceLT]
 replace h:=qab h; subst h;exact zbq.ret rfl (zan (e:=(eI .u64)) (t:=true) rfl (.inr rfl) rfl rfl (fun k h=>nomatch h) (fun _=>rfl))
def zcc(p0:(List Int))(v4:Int)(v5:Int):Nat→Bool→Int→Option Bool
 | 0,_,_=>none
 | n+1,v6',v7=>(
bif (decide (v7<(p0.length:Int)))then(
((bif v6' then(
some true)
else(
(zaK p0 v7).bind fun x16=>
(zbx x16 v4).bind fun r18=>
bif r18 then(
(zbx x16 v5).bind fun r21=>
some r21)
else(
some false)):Option Bool)).bind fun v6''=>
zcc p0 v4 v5 n v6'' (w64 (v7+1)))
else(
some v6'))
def zb3(p0:(List Int))(v4:Int):Nat→Int→(List Int)→Option (List Int)
 | 0,_,_=>none
 | n+1,v5,l0'=>(
bif (decide (v5<(p0.length:Int)))then(
(((zaK p0 v4).bind fun x5=>
(zbx x5 v5).bind fun r7=>
bif r7 then(
some true)
else(
(zaK p0 v5).bind fun x10=>
(zbx x10 v4).bind fun r12=>
some r12):Option Bool)).bind fun v6=>
((zcc p0 v4 v5 ((p0.length:Int) - 0+2:Int).toNat v6 0:Option Bool)).bind fun v6'=>
((bif (v4 == v5)then(
some false)
else(
some v6'):Option Bool)).bind fun v65=>
((bif v65 then(
(zaK l0' v4).bind fun x25=>
(zhO .u64 1 (IntKind.u64.wrap v5)).bind fun q27=>
(zgm l0' v4 (orI .u64 x25 q27)).bind fun y29=>
some y29)
else(
some l0'):Option (List Int))).bind fun l0''=>
zb3 p0 v4 n (w64 (v5+1)) l0'')
else(
some l0'))
def zcG(p0:(List Int)):Nat→Int→(List Int)→Option (List Int)
 | 0,_,_=>none
 | n+1,v4,l0=>(
bif (decide (v4<(p0.length:Int)))then(
((zb3 p0 v4 ((p0.length:Int) - 0+2:Int).toNat 0 l0:Option (List Int))).bind fun l0'=>
zcG p0 n (w64 (v4+1)) l0')
else(
some l0))
def zc3(p0:(List Int)):Option (List Int):=
(zgd 8 (p0.length:Int) 0).bind fun y1=>
((zcG p0 ((p0.length:Int) - 0+2:Int).toNat 0 y1:Option (List Int))).bind fun l0=>
some l0
theorem zkI{p0:(List Int)}{r:(List Int)}(h:zc3 p0=some r):Lx.Fn mC 23 [(fzE false (eI .u64) p0)] (fzE true (eI .u64) r):=by
 refine fnO (by conv=>lhs; cbv) ?_;unfold zc3 at h;refine zab ?_;obtain⟨y1,g2,h⟩:=bind_some h;try simp only[rnA,Nat.reduceEqDiff,Nat.reduceLT,reduceCtorEq,zaj,(zbt g2).1.1,(zbt g2).1.2,qb5,(show List.replicate (Int.toNat (p0.length:Int)) [(dU 0)]=y1.map ((eI .u64).c true)from zdn g2 ((eI .u64).c true))]
 obtain⟨o223,j223,h⟩:=bind_some h;obtain⟨T223,hT223⟩:=mkT fun a:(List Int)=>⟨78,[(3,(.sl 0 0 1 (Int.toNat (p0.length:Int)) (some (Int.toNat (p0.length:Int))) (Int.toNat (p0.length:Int))))],[.els 1 (a.map ((eI .u64).c true))]⟩
 refine EvL.jn T223 (fun a=>a=o223∧a.length=(Int.toNat (p0.length:Int))) ?_ ?_
 ·refine zab ?_;simp only[rnA];obtain⟨T378,hT378⟩:=mkT fun a:(Int×(List Int))=>⟨78,[(0,(fzE false (eI .u64) p0)),(3,(.sl 0 0 1 (Int.toNat (p0.length:Int)) (some (Int.toNat (p0.length:Int))) (Int.toNat (p0.length:Int)))),(4,(dI a.1))],[.els 1 (a.2.map ((eI .u64).c true))]⟩
  refine EvL.rounds (α:=(Int×(List Int))) T378 (fun n a=>zcG p0 n a.1 a.2=some o223∧a.2.length=(Int.toNat (p0.length:Int))) ((p0.length:Int) - 0+2:Int).toNat (0,y1) (by rw[hT378]; exact wm0 [.k] ⟨MB.es (eI .u64) true y1,qcO⟩) ⟨j223,zcR g2⟩ (fun _ h=>nomatch (show(none:Option (List Int))=some o223 from h.1)) ?_;rintro n ⟨v4,l0⟩ ⟨j223,el0⟩;simp only[zcG]at j223;rw[congrFun hT378 (v4,l0)];refine zab ?_;try simp only[rnA,Nat.reduceEqDiff,Nat.reduceLT,reduceCtorEq,zaj]
  cases c3:(decide (v4<(p0.length:Int)))
  ·rw[c3,cond_false]at j223;try simp only[rnA]
   replace j223:=qab j223; subst j223;exact⟨_,⟨rfl,el0⟩,by rw[hT223]; exact wm0 [.k] ⟨MB.es (eI .u64) true l0,qcO⟩⟩
  rw[c3,cond_true]at j223;try simp only[rnA,Nat.reduceLT]
  obtain⟨o412,j412,j223⟩:=bind_some j223;obtain⟨T412,hT412⟩:=mkT fun a:(List Int)=>⟨78,[(0,(fzE false (eI .u64) p0)),(3,(.sl 0 0 1 (Int.toNat (p0.length:Int)) (some (Int.toNat (p0.length:Int))) (Int.toNat (p0.length:Int)))),(4,(dI v4))],[.els 1 (a.map ((eI .u64).c true))]⟩
  refine EvL.jn T412 (fun a=>a=o412∧a.length=(Int.toNat (p0.length:Int))) ?_ ?_
  ·refine zab ?_;simp only[rnA];obtain⟨T435,hT435⟩:=mkT fun a:(Int×(List Int))=>⟨78,[(0,(fzE false (eI .u64) p0)),(3,(.sl 0 0 1 (Int.toNat (p0.length:Int)) (some (Int.toNat (p0.length:Int))) (Int.toNat (p0.length:Int)))),(4,(dI v4)),(5,(dI a.1))],[.els 1 (a.2.map ((eI .u64).c true))]⟩
   refine EvL.rounds (α:=(Int×(List Int))) T435 (fun n a=>zb3 p0 v4 n a.1 a.2=some o412∧a.2.length=(Int.toNat (p0.length:Int))) ((p0.length:Int) - 0+2:Int).toNat (0,l0) (by rw[hT435]; exact wm0 [.k] ⟨MB.es (eI .u64) true l0,qcO⟩) ⟨j412,el0⟩ (fun _ h=>nomatch (show(none:Option (List Int))=some o412 from h.1)) ?_;rintro n ⟨v5,l0'⟩ ⟨j412,el0'⟩;simp only[zb3]at j412;rw[congrFun hT435 (v5,l0')];refine zab ?_;try simp only[rnA,Nat.reduceEqDiff,Nat.reduceLT,reduceCtorEq,zaj]
   cases c4:(decide (v5<(p0.length:Int)))
   ·rw[c4,cond_false]at j412;try simp only[rnA,Nat.reduceEqDiff,Nat.reduceLT,reduceCtorEq]
    replace j412:=qab j412; subst j412;exact⟨_,⟨rfl,el0'⟩,by rw[hT412]; exact wm0 [.k] ⟨MB.es (eI .u64) true l0',qcO⟩⟩
   rw[c4,cond_true]at j412;try simp only[rnA]
   obtain⟨o436,j436,j412⟩:=bind_some j412;obtain⟨T436,hT436⟩:=mkT fun a:Bool=>⟨78,[(0,(fzE false (eI .u64) p0)),(3,(.sl 0 0 1 (Int.toNat (p0.length:Int)) (some (Int.toNat (p0.length:Int))) (Int.toNat (p0.length:Int)))),(4,(dI v4)),(5,(dI v5)),(6,(dB a))],[.els 1 (l0'.map ((eI .u64).c true))]⟩
   refine EvL.jn T436 (fun a=>a=o436) ?_ ?_
   ·refine zab ?_;obtain⟨x5,g6,j436⟩:=bind_some j436;obtain⟨r7,g8,j436⟩:=bind_some j436;try simp only[rnA,Nat.reduceEqDiff,Nat.reduceLT,reduceCtorEq,zak (n:=1) (e:=(eI .u64)) rfl g6]
    refine EvL.fn (zdU g8) rfl rfl (.cons (.lit _) (.cons (.lit _) .nil)) ?_;try simp only[rnA,Nat.reduceEqDiff,Nat.reduceLT,reduceCtorEq]
    cases c9:r7
    ·rw[c9,cond_false]at j436;obtain⟨x10,g11,j436⟩:=bind_some j436;obtain⟨r12,g13,j436⟩:=bind_some j436;try simp only[rnA,Nat.reduceEqDiff,Nat.reduceLT,reduceCtorEq,zak (n:=1) (e:=(eI .u64)) rfl g11]
     refine EvL.fn (zdU g13) rfl rfl (.cons (.lit _) (.cons (.lit _) .nil)) ?_;try simp only[rnA,Nat.reduceEqDiff,Nat.reduceLT,reduceCtorEq]
     replace j436:=qab j436; subst j436;exact lfj hT436 rfl (wm0 [.k] ⟨MB.es (eI .u64) true l0',qcO⟩)
    rw[c9,cond_true]at j436;try simp only[rnA,Nat.reduceEqDiff,Nat.reduceLT,reduceCtorEq]
    refine EvL.skip rfl ?_;try simp only[rnA,Nat.reduceEqDiff,Nat.reduceLT,reduceCtorEq]
    replace j436:=qab j436; subst j436;exact lfj hT436 rfl (wm0 [.k] ⟨MB.es (eI .u64) true l0',qcO⟩)
   rintro v6 rfl;rw[congrFun hT436 v6];refine zab ?_;try simp only[rnA,Nat.reduceLT]
   obtain⟨o440,j440,j412⟩:=bind_some j412;obtain⟨T440,hT440⟩:=mkT fun a:Bool=>⟨78,[(0,(fzE false (eI .u64) p0)),(3,(.sl 0 0 1 (Int.toNat (p0.length:Int)) (some (Int.toNat (p0.length:Int))) (Int.toNat (p0.length:Int)))),(4,(dI v4)),(5,(dI v5)),(6,(dB a))],[.els 1 (l0'.map ((eI .u64).c true))]⟩
   refine EvL.jn T440 (fun a=>a=o440) ?_ ?_
   ·refine zab ?_;simp only[rnA];obtain⟨T443,hT443⟩:=mkT fun a:(Bool×Int)=>⟨78,[(0,(fzE false (eI .u64) p0)),(3,(.sl 0 0 1 (Int.toNat (p0.length:Int)) (some (Int.toNat (p0.length:Int))) (Int.toNat (p0.length:Int)))),(4,(dI v4)),(5,(dI v5)),(6,(dB a.1)),(7,(dI a.2))],[.els 1 (l0'.map ((eI .u64).c true))]⟩
    refine EvL.rounds (α:=(Bool×Int)) T443 (fun n a=>zcc p0 v4 v5 n a.1 a.2=some o440) ((p0.length:Int) - 0+2:Int).toNat (v6,0) (by rw[hT443]; exact wm0 [.k] ⟨MB.es (eI .u64) true l0',qcO⟩) j440 (fun _ h=>nomatch (show(none:Option Bool)=some o440 from h)) ?_;rintro n ⟨v6',v7⟩ j440;simp only[zcc]at j440;rw[congrFun hT443 (v6',v7)];refine zab ?_;try simp only[rnA,Nat.reduceEqDiff,Nat.reduceLT,reduceCtorEq,zaj]
    cases c14:(decide (v7<(p0.length:Int)))
    ·rw[c14,cond_false]at j440;try simp only[rnA,Nat.reduceEqDiff,Nat.reduceLT,reduceCtorEq]
     replace j440:=qab j440; subst j440;exact lfj hT440 rfl (wm0 [.k] ⟨MB.es (eI .u64) true l0',qcO⟩)
    rw[c14,cond_true]at j440;try simp only[rnA]
    obtain⟨o444,j444,j440⟩:=bind_some j440;obtain⟨T444,hT444⟩:=mkT fun a:Bool=>⟨78,[(0,(fzE false (eI .u64) p0)),(3,(.sl 0 0 1 (Int.toNat (p0.length:Int)) (some (Int.toNat (p0.length:Int))) (Int.toNat (p0.length:Int)))),(4,(dI v4)),(5,(dI v5)),(6,(dB a)),(7,(dI v7))],[.els 1 (l0'.map ((eI .u64).c true))]⟩
    refine EvL.jn T444 (fun a=>a=o444) ?_ ?_
    ·refine zab ?_;try simp only[rnA,Nat.reduceEqDiff,Nat.reduceLT,reduceCtorEq]
     cases c15:v6'
     ·rw[c15,cond_false]at j444;obtain⟨x16,g17,j444⟩:=bind_some j444;obtain⟨r18,g19,j444⟩:=bind_some j444;try simp only[rnA,Nat.reduceEqDiff,Nat.reduceLT,reduceCtorEq,zak (n:=1) (e:=(eI .u64)) rfl g17]
      refine EvL.fn (zdU g19) rfl rfl (.cons (.lit _) (.cons (.lit _) .nil)) ?_;try simp only[rnA,Nat.reduceEqDiff,Nat.reduceLT,reduceCtorEq]
      cases c20:r18
      ·rw[c20,cond_false]at j444;try simp only[rnA,Nat.reduceEqDiff,Nat.reduceLT,reduceCtorEq]
       refine EvL.skip rfl ?_;try simp only[rnA,Nat.reduceEqDiff,Nat.reduceLT,reduceCtorEq]
       replace j444:=qab j444; subst j444;exact lfj hT444 rfl (wm0 [.k] ⟨MB.es (eI .u64) true l0',qcO⟩)
      rw[c20,cond_true]at j444;obtain⟨r21,g22,j444⟩:=bind_some j444;try simp only[rnA,Nat.reduceEqDiff,Nat.reduceLT,reduceCtorEq,zak (n:=1) (e:=(eI .u64)) rfl g17]
      refine EvL.fn (zdU g22) rfl rfl (.cons (.lit _) (.cons (.lit _) .nil)) ?_;try simp only[rnA,Nat.reduceEqDiff,Nat.reduceLT,reduceCtorEq]
      replace j444:=qab j444; subst j444;exact lfj hT444 rfl (wm0 [.k] ⟨MB.es (eI .u64) true l0',qcO⟩)
     rw[c15,cond_true]at j444;try simp only[rnA,Nat.reduceEqDiff,Nat.reduceLT,reduceCtorEq]
     refine EvL.skip rfl ?_;try simp only[rnA,Nat.reduceEqDiff,Nat.reduceLT,reduceCtorEq]
     refine EvL.skip rfl ?_;try simp only[rnA,Nat.reduceEqDiff,Nat.reduceLT,reduceCtorEq]
     replace j444:=qab j444; subst j444;exact lfj hT444 rfl (wm0 [.k] ⟨MB.es (eI .u64) true l0',qcO⟩)
    rintro v6'' rfl;rw[congrFun hT444 v6''];refine zab ?_;try simp only[rnA,Nat.reduceEqDiff,Nat.reduceLT,reduceCtorEq]
    exact⟨(v6'',(w64 (v7+1))),j440,by rw[hT443]; exact wm0 [.k] ⟨MB.es (eI .u64) true l0',qcO⟩⟩
   rintro v6' rfl;rw[congrFun hT440 v6'];refine zab ?_;try simp only[rnA]
   obtain⟨o445,j445,j412⟩:=bind_some j412;obtain⟨T445,hT445⟩:=mkT fun a:Bool=>⟨78,[(0,(fzE false (eI .u64) p0)),(3,(.sl 0 0 1 (Int.toNat (p0.length:Int)) (some (Int.toNat (p0.length:Int))) (Int.toNat (p0.length:Int)))),(4,(dI v4)),(5,(dI v5)),(65,(dB a))],[.els 1 (l0'.map ((eI .u64).c true))]⟩
   refine EvL.jn T445 (fun a=>a=o445) ?_ ?_
   ·refine zab ?_;try simp only[rnA,Nat.reduceEqDiff,Nat.reduceLT,reduceCtorEq]
    cases c23:(v4 == v5)
    ·rw[c23,cond_false]at j445;try simp only[rnA,Nat.reduceEqDiff,Nat.reduceLT,reduceCtorEq]
     replace j445:=qab j445; subst j445;exact lfj hT445 rfl (wm0 [.k] ⟨MB.es (eI .u64) true l0',qcO⟩)
    rw[c23,cond_true]at j445;try simp only[rnA,Nat.reduceEqDiff,Nat.reduceLT,reduceCtorEq]
    replace j445:=qab j445; subst j445;exact lfj hT445 rfl (wm0 [.k] ⟨MB.es (eI .u64) true l0',qcO⟩)
   rintro v65 rfl;rw[congrFun hT445 v65];refine zab ?_;try simp only[rnA]
   obtain⟨o446,j446,j412⟩:=bind_some j412;obtain⟨T446,hT446⟩:=mkT fun a:(List Int)=>⟨78,[(0,(fzE false (eI .u64) p0)),(3,(.sl 0 0 1 (Int.toNat (p0.length:Int)) (some (Int.toNat (p0.length:Int))) (Int.toNat (p0.length:Int)))),(4,(dI v4)),(5,(dI v5))],[.els 1 (a.map ((eI .u64).c true))]⟩
   refine EvL.jn T446 (fun a=>a=o446∧a.length=(Int.toNat (p0.length:Int))) ?_ ?_
   ·refine zab ?_;try simp only[rnA,Nat.reduceEqDiff,reduceCtorEq]
    cases c24:v65
    ·rw[c24,cond_false]at j446;try simp only[rnA]
     replace j446:=qab j446; subst j446;exact⟨_,⟨rfl,el0'⟩,by rw[hT446]; exact wm0 [.k] ⟨MB.es (eI .u64) true l0',qcO⟩⟩
    rw[c24,cond_true]at j446;obtain⟨x25,g26,j446⟩:=bind_some j446;obtain⟨q27,g28,j446⟩:=bind_some j446;obtain⟨y29,g30,j446⟩:=bind_some j446;try simp only[rnA,Nat.reduceEqDiff,Nat.reduceLT,Nat.reduceLeDiff,reduceCtorEq,el0',zbz g26,(show v4<(((Int.toNat (p0.length:Int)):Nat):Int)from el0' ▸ zbS g26),zbi g26 ((eI .u64).c true),(zaY g28).1,(zaY g28).2,(show(l0'.map ((eI .u64).c true)).set v4.toNat [(dU (orI .u64 x25 q27))]=y29.map ((eI .u64).c true)from zci g30 ((eI .u64).c true))]
    replace j446:=qab j446; subst j446;exact⟨_,⟨rfl,(zb2 g30).trans el0'⟩,by rw[hT446]; exact wm0 [.k] ⟨MB.es (eI .u64) true y29,qcO⟩⟩
   rintro l0'' ⟨rfl,el0''⟩;rw[congrFun hT446 l0''];refine zab ?_;try simp only[rnA,Nat.reduceEqDiff,Nat.reduceLT,reduceCtorEq]
   exact⟨((w64 (v5+1)),l0''),⟨j412,el0''⟩,by rw[hT435]; exact wm0 [.k] ⟨MB.es (eI .u64) true l0'',qcO⟩⟩
  rintro l0' ⟨rfl,el0'⟩;rw[congrFun hT412 l0'];refine zab ?_;try simp only[rnA,Nat.reduceEqDiff,Nat.reduceLT,reduceCtorEq]
  exact⟨((w64 (v4+1)),l0'),⟨j223,el0'⟩,by rw[hT378]; exact wm0 [.k] ⟨MB.es (eI .u64) true l0',qcO⟩⟩
 rintro l0 ⟨rfl,el0⟩;rw[congrFun hT223 l0];refine zab ?_;try simp only[rnA,Nat.reduceEqDiff,Nat.reduceLT]
 replace h:=qab h; subst h;exact zbq.ret rfl (zan (e:=(eI .u64)) (t:=true) rfl (.inl rfl) (el0).symm (el0).symm (fun k h=>by cases h; exact qal _) (fun _=>rfl))
def zc4(p0:(List Int))(p1:(List Int)):Nat→Int→Option (Out Unit Bool)
 | 0,_=>none
 | n+1,v5=>(
bif (decide (v5<(p0.length:Int)))then(
(zaK p0 v5).bind fun x3=>
(zaK p1 v5).bind fun x5=>
bif (x3 == x5)then(
zc4 p0 p1 n (w64 (v5+1)))
else(
some (.ret false)))
else(
some (.go ())))
def zcK(p0:(List Int))(p1:(List Int)):Option Bool:=
bif ((p0.length:Int)==(p1.length:Int))then(
((zc4 p0 p1 ((p0.length:Int) - 0+2:Int).toNat 0:Option (Out Unit Bool))).bind fun o=>match o with
| .go _=>(
some true)
| .ret r=>some r)
else(
some false)
theorem zhb{p0:(List Int)}{p1:(List Int)}{r:Bool}(h:zcK p0 p1=some r):Lx.Fn mC 24 [(fzE false (eI .u64) p0),(fzE false (eI .u64) p1)] (dB r):=by
 refine fnO (by conv=>lhs; cbv) ?_;unfold zcK at h;refine zab ?_;try simp only[rnA,Nat.reduceEqDiff,Nat.reduceLT,Nat.reduceAdd,reduceCtorEq,zaj]
 cases c1:((p0.length:Int)==(p1.length:Int))
 ·rw[c1,cond_false]at h;try simp only[rnA,Nat.reduceLT]
  replace h:=qab h; subst h;exact zbq.ret rfl (.lit _)
 rw[c1,cond_true]at h;try simp only[rnA,Nat.reduceLT]
 obtain⟨o1,j1,h⟩:=bind_some h;obtain⟨T1,hT1⟩:=mkT fun a:Unit=>⟨26,[],[]⟩
 refine EvL.jn T1 (fun a=>o1=.go a) ?_ ?_
 ·refine zab ?_;simp only[rnA];obtain⟨T2,hT2⟩:=mkT fun a:Int=>⟨26,[(0,(fzE false (eI .u64) p0)),(1,(fzE false (eI .u64) p1)),(5,(dI a))],[]⟩
  refine EvL.rounds (α:=Int) T2 (fun n a=>zc4 p0 p1 n a=some o1) ((p0.length:Int) - 0+2:Int).toNat 0 (by rw[hT2]; exact wm0 [] (by exact trivial)) j1 (fun _ h=>nomatch (show(none:Option (Out Unit Bool))=some o1 from h)) ?_;rintro n v5 j1;simp only[zc4]at j1;rw[congrFun hT2 v5];refine zab ?_;try simp only[rnA,Nat.reduceEqDiff,Nat.reduceLT,reduceCtorEq,zaj]
  cases c2:(decide (v5<(p0.length:Int)))
  ·rw[c2,cond_false]at j1;try simp only[rnA]
   replace j1:=qab j1; subst j1;exact lfj hT1 rfl (wm0 [] (by exact trivial))
  rw[c2,cond_true]at j1;obtain⟨x3,g4,j1⟩:=bind_some j1;obtain⟨x5,g6,j1⟩:=bind_some j1;try simp only[rnA,Nat.reduceEqDiff,Nat.reduceLT,reduceCtorEq,zak (n:=1) (e:=(eI .u64)) rfl g4,zak (n:=1) (e:=(eI .u64)) rfl g6]
  cases c7:(x3 == x5)
  ·rw[c7,cond_false]at j1;try simp only[rnA,Nat.reduceLT]
   replace j1:=qab j1; subst j1;dsimp only at h;replace h:=qab h; subst h;exact zbq.ret rfl (.lit _)
  rw[c7,cond_true]at j1;try simp only[rnA,Nat.reduceEqDiff,Nat.reduceLT,reduceCtorEq]
  exact⟨(w64 (v5+1)),j1,by rw[hT2]; exact wm0 [] (by exact trivial)⟩
 rintro⟨⟩ rfl;dsimp only at h;rw[congrFun hT1 ()];refine zab ?_;try simp only[rnA,Nat.reduceLT]
 replace h:=qab h; subst h;exact zbq.ret rfl (.lit _)
def zcM(p0:(List Int))(v4:Int)(l0:(List Int)):Nat→Int→Option (Int×(List Int))
 | 0,_=>none
 | n+1,v5=>(
bif (decide (v5<(p0.length:Int)))then(
(((zbx v4 v5).bind fun r3=>
bif r3 then(
some false)
else(
(zaK p0 v5).bind fun x6=>
some ((zqR .u64 x6 v4)== 0)):Option Bool)).bind fun v29=>
bif v29 then(
(zd7 8 l0 [v5]).bind fun y9=>
(zhO .u64 1 (IntKind.u64.wrap v5)).bind fun q11=>
some ((orI .u64 v4 q11),y9))
else(
zcM p0 v4 l0 n (w64 (v5+1))))
else(
some (v4,l0)))
def zcB(p0:(List Int)):Nat→Int→(List Int)→Option (List Int)
 | 0,_,_=>none
 | n+1,v4,l0=>(
bif (decide (((l0.length:Nat):Int)<(p0.length:Int)))then(
((zcM p0 v4 l0 ((p0.length:Int) - 0+2:Int).toNat 0:Option ((Int×(List Int))))).bind fun o=>match o with
|(v4',l0')=>(
zcB p0 n v4' l0'))
else(
some l0))
def zc8(p0:(List Int)):Option (List Int):=
((zcB p0 ((p0.length:Int) - ((0:Nat):Int)+2:Int).toNat 0 []:Option (List Int))).bind fun l0=>
some l0
theorem zkU{p0:(List Int)}{r:(List Int)}(h:zc8 p0=some r):Lx.Fn mC 25 [(fzE false (eI .u64) p0)] (fzE true (eI .i64) r):=by
 refine fnO (by conv=>lhs; cbv) ?_;unfold zc8 at h;refine zab ?_;try simp only[rnA,Nat.reduceLT]
 obtain⟨o36,j36,h⟩:=bind_some h;obtain⟨T36,hT36⟩:=mkT fun a:(List Int)=>⟨40,[(3,(.sl 0 0 1 a.length none a.length))],[.grow 1 (a.map ((eI .i64).c true))]⟩
 refine EvL.jn T36 (fun a=>a=o36) ?_ ?_
 ·refine zab ?_;simp only[rnA];obtain⟨T64,hT64⟩:=mkT fun a:(Int×(List Int))=>⟨40,[(0,(fzE false (eI .u64) p0)),(3,(.sl 0 0 1 a.2.length none a.2.length)),(4,(dU a.1))],[.grow 1 (a.2.map ((eI .i64).c true))]⟩
  refine EvL.zed (zbD.ghost (n:=1) (k:=3) (by decide) rfl) ?_;refine EvL.rounds (α:=(Int×(List Int))) T64 (fun n a=>zcB p0 n a.1 a.2=some o36) ((p0.length:Int) - ((0:Nat):Int)+2:Int).toNat (0,[]) (by rw[hT64]; exact wm0 [.k] ⟨MB.gs (eI .i64) true [],qcO⟩) j36 (fun _ h=>nomatch (show(none:Option (List Int))=some o36 from h)) ?_;rintro n ⟨v4,l0⟩ j36;simp only[zcB]at j36;rw[congrFun hT64 (v4,l0)];refine zab ?_;try simp only[rnA,Nat.reduceEqDiff,Nat.reduceLT,reduceCtorEq,zaj]
  cases c1:(decide (((l0.length:Nat):Int)<(p0.length:Int)))
  ·rw[c1,cond_false]at j36;try simp only[rnA]
   replace j36:=qab j36; subst j36;exact lfj hT36 rfl (wm0 [.k] ⟨MB.gs (eI .i64) true l0,qcO⟩)
  rw[c1,cond_true]at j36;try simp only[rnA,Nat.reduceLT]
  obtain⟨o68,j68,j36⟩:=bind_some j36;obtain⟨T68,hT68⟩:=mkT fun a:(Int×(List Int))=>⟨40,[(0,(fzE false (eI .u64) p0)),(3,(.sl 0 0 1 a.2.length none a.2.length)),(4,(dU a.1))],[.grow 1 (a.2.map ((eI .i64).c true))]⟩
  refine EvL.jn T68 (fun a=>a=o68) ?_ ?_
  ·refine zab ?_;simp only[rnA];obtain⟨T71,hT71⟩:=mkT fun a:Int=>⟨40,[(0,(fzE false (eI .u64) p0)),(3,(.sl 0 0 1 l0.length none l0.length)),(4,(dU v4)),(5,(dI a))],[.grow 1 (l0.map ((eI .i64).c true))]⟩
   refine EvL.rounds (α:=Int) T71 (fun n a=>zcM p0 v4 l0 n a=some o68) ((p0.length:Int) - 0+2:Int).toNat 0 (by rw[hT71]; exact wm0 [.k] ⟨MB.gs (eI .i64) true l0,qcO⟩) j68 (fun _ h=>nomatch (show(none:Option (Int×(List Int)))=some o68 from h)) ?_;rintro n v5 j68;simp only[zcM]at j68;rw[congrFun hT71 v5];refine zab ?_;try simp only[rnA,Nat.reduceEqDiff,Nat.reduceLT,reduceCtorEq,zaj]
   cases c2:(decide (v5<(p0.length:Int)))
   ·rw[c2,cond_false]at j68;try simp only[rnA,Nat.reduceEqDiff,reduceCtorEq]
    replace j68:=qab j68; subst j68;exact lfj hT68 rfl (wm0 [.k] ⟨MB.gs (eI .i64) true l0,qcO⟩)
   rw[c2,cond_true]at j68;try simp only[rnA]
   obtain⟨o72,j72,j68⟩:=bind_some j68;obtain⟨T72,hT72⟩:=mkT fun a:Bool=>⟨40,[(0,(fzE false (eI .u64) p0)),(3,(.sl 0 0 1 l0.length none l0.length)),(4,(dU v4)),(5,(dI v5)),(29,(dB a))],[.grow 1 (l0.map ((eI .i64).c true))]⟩
   refine EvL.jn T72 (fun a=>a=o72) ?_ ?_
   ·refine zab ?_;obtain⟨r3,g4,j72⟩:=bind_some j72;try simp only[rnA,Nat.reduceEqDiff,Nat.reduceLT,reduceCtorEq]
    refine EvL.fn (zdU g4) rfl rfl (.cons (.lit _) (.cons (.lit _) .nil)) ?_;try simp only[rnA,Nat.reduceEqDiff,Nat.reduceLT,reduceCtorEq]
    cases c5:r3
    ·rw[c5,cond_false]at j72;obtain⟨x6,g7,j72⟩:=bind_some j72;try simp only[rnA,Nat.reduceEqDiff,Nat.reduceLT,reduceCtorEq,zak (n:=1) (e:=(eI .u64)) rfl g7]
     replace j72:=qab j72; subst j72;exact lfj hT72 rfl (wm0 [.k] ⟨MB.gs (eI .i64) true l0,qcO⟩)
    rw[c5,cond_true]at j72;try simp only[rnA,Nat.reduceEqDiff,Nat.reduceLT,reduceCtorEq]
    replace j72:=qab j72; subst j72;exact lfj hT72 rfl (wm0 [.k] ⟨MB.gs (eI .i64) true l0,qcO⟩)
   rintro v29 rfl;rw[congrFun hT72 v29];refine zab ?_;try simp only[rnA,Nat.reduceEqDiff,reduceCtorEq]
   cases c8:v29
   ·rw[c8,cond_false]at j68;try simp only[rnA,Nat.reduceEqDiff,Nat.reduceLT,reduceCtorEq]
    exact⟨(w64 (v5+1)),j68,by rw[hT71]; exact wm0 [.k] ⟨MB.gs (eI .i64) true l0,qcO⟩⟩
   rw[c8,cond_true]at j68;obtain⟨y9,g10,j68⟩:=bind_some j68;obtain⟨q11,g12,j68⟩:=bind_some j68;try simp only[rnA,Nat.reduceEqDiff,Nat.reduceLT,Nat.reduceLeDiff,reduceCtorEq,zcS g10,(show l0.length+1=y9.length from zbT g10),(show l0.map ((eI .i64).c true)++ [[(dI v5)]]=y9.map ((eI .i64).c true)from zcr g10 ((eI .i64).c true)),(zaY g12).1,(zaY g12).2]
   replace j68:=qab j68; subst j68;exact lfj hT68 rfl (wm0 [.k] ⟨MB.gs (eI .i64) true y9,qcO⟩)
  rintro⟨v4',l0'⟩ rfl;dsimp only at j36;rw[congrFun hT68 (v4',l0')];refine zab ?_;try simp only[rnA]
  exact⟨(v4',l0'),j36,by rw[hT64]; exact wm0 [.k] ⟨MB.gs (eI .i64) true l0',qcO⟩⟩
 rintro l0 rfl;rw[congrFun hT36 l0];refine zab ?_;try simp only[rnA,Nat.reduceEqDiff,Nat.reduceLT]
 replace h:=qab h; subst h;exact zbq.ret rfl (zan (e:=(eI .i64)) (t:=true) rfl (.inr rfl) rfl rfl (fun k h=>nomatch h) (fun _=>rfl))
def zdA(y8:(List (List Int))):Nat→Int→(List (List Int))→Option (List (List Int))
 | 0,_,_=>none
 | n+1,v42,l6=>(
bif (decide (v42<(y8.length:Int)))then(
(zaK y8 v42).bind fun x11=>
(zdp x11 0 (zcA (x11.length:Int) 6)).bind fun y13=>
(zd7 24 l6 [y13]).bind fun y15=>
zdA y8 n (w64 (v42+1)) y15)
else(
some l6))
def zdD(y1:(List S_api_Node)):Nat→Int→(List S_api_Node)→Option (List S_api_Node)
 | 0,_,_=>none
 | n+1,v20,l3=>(
bif (decide (v20<(y1.length:Int)))then(
(zaK y1 v20).bind fun x4=>
(zdp x4.parents 0 (zcA (x4.parents.length:Int) 8)).bind fun y6=>
(zdp x4.rows 0 (zcA (x4.rows.length:Int) 20)).bind fun y8=>
((zdA y8 ((y8.length:Int) - 0+2:Int).toNat 0 []:Option (List (List Int)))).bind fun l6=>
(zd7 56 l3 [(S_api_Node.mk x4.card y6 l6)]).bind fun y17=>
zdD y1 n (w64 (v20+1)) y17)
else(
some l3))
def ze4(p0:S_api_Net):Option S_api_Net:=
(zdp p0.nodes 0 (zcA (p0.nodes.length:Int) 9)).bind fun y1=>
((zdD y1 ((y1.length:Int) - 0+2:Int).toNat 0 []:Option (List S_api_Node))).bind fun l3=>
some (S_api_Net.mk p0.grain l3)
theorem znN{p0:S_api_Net}{r:S_api_Net}(h:ze4 p0=some r):Lx.FnA mC 47 [(.agg [(dI p0.grain),(fzE false zaa p0.nodes)])] (.agg [(dI r.grain),(fzE false zaa r.nodes)]):=by
 refine zuD (by conv=>lhs; cbv) ?_;unfold ze4 at h;refine zab ?_;obtain⟨y1,g2,h⟩:=bind_some h;try simp only[rnA,Nat.reduceEqDiff,Nat.reduceLT,Nat.reduceAdd,Nat.reduceLeDiff,reduceCtorEq,zaj,zkZ (n:=3) (e:=zaa) rfl g2]
 obtain⟨o9,j9,h⟩:=bind_some h;obtain⟨T9,hT9⟩:=mkT fun a:(List S_api_Node)=>⟨65,[(2,(.ptr 1 0)),(3,(.ptr 2 0))],[.gone,.cells [(dI 0),zb0],.cells [(dI p0.grain),(.sl 3 0 3 a.length none a.length)],.grow 3 (a.map (zaa.c false))]⟩
 refine EvL.jn T9 (fun a=>a=o9) ?_ ?_
 ·refine zab ?_;simp only[rnA];obtain⟨T16,hT16⟩:=mkT fun a:(Int×(List S_api_Node))=>⟨65,[(2,(.ptr 1 0)),(3,(.ptr 2 0)),(18,(fzE false zaa y1)),(19,(dI (y1.length:Int))),(20,(dI a.1))],[.gone,.cells [(dI 0),zb0],.cells [(dI p0.grain),(.sl 3 0 3 a.2.length none a.2.length)],.grow 3 (a.2.map (zaa.c false))]⟩
  refine EvL.zed (zbD.zhj (n:=3) (β:=2) (o:=1) (by decide) rfl rfl) ?_;refine EvL.rounds (α:=(Int×(List S_api_Node))) T16 (fun n a=>zdD y1 n a.1 a.2=some o9) ((y1.length:Int) - 0+2:Int).toNat (0,[]) (by rw[hT16]; exact wm0 [.d,.k,.k,.k] ⟨rfl,⟨MB.cs ⟨qcO,qcO,qcO⟩,⟨MB.cs ⟨qcO,rfl,qcO⟩,⟨MB.gs zaa false [],qcO⟩⟩⟩⟩) j9 (fun _ h=>nomatch (show(none:Option (List S_api_Node))=some o9 from h)) ?_;rintro n ⟨v20,l3⟩ j9;simp only[zdD]at j9;rw[congrFun hT16 (v20,l3)];refine zab ?_;try simp only[rnA,Nat.reduceEqDiff,Nat.reduceLT]
  cases c3:(decide (v20<(y1.length:Int)))
  ·rw[c3,cond_false]at j9;try simp only[rnA]
   replace j9:=qab j9; subst j9;exact lfj hT9 rfl (wm0 [.d,.k,.k,.k] ⟨rfl,⟨MB.cs ⟨qcO,qcO,qcO⟩,⟨MB.cs ⟨qcO,rfl,qcO⟩,⟨MB.gs zaa false l3,qcO⟩⟩⟩⟩)
  rw[c3,cond_true]at j9;obtain⟨x4,g5,j9⟩:=bind_some j9;obtain⟨y6,g7,j9⟩:=bind_some j9;obtain⟨y8,g9,j9⟩:=bind_some j9;try simp only[rnA,Nat.reduceEqDiff,Nat.reduceLT,Nat.reduceAdd,Nat.reduceLeDiff,zac,zak (n:=3) (e:=zaa) rfl g5,zaj,zkZ (n:=1) (e:=(eI .i64)) rfl g7,zkZ (n:=1) (e:=(eL (eI .i64))) rfl g9]
  obtain⟨o17,j17,j9⟩:=bind_some j9;obtain⟨T17,hT17⟩:=mkT fun a:(List (List Int))=>⟨65,[(2,(.ptr 1 0)),(3,(.ptr 2 0)),(6,(.ptr 5 0)),(18,(fzE false zaa y1)),(19,(dI (y1.length:Int))),(20,(dI v20))],[.gone,.cells [(dI 0),zb0],.cells [(dI p0.grain),(.sl 3 0 3 l3.length none l3.length)],.grow 3 (l3.map (zaa.c false)),.gone,.cells [(dI x4.card),(fzE false (eI .i64) y6),(.sl 6 0 1 a.length none a.length)],.grow 1 (a.map ((eL (eI .i64)).c false))]⟩
  refine EvL.jn T17 (fun a=>a=o17) ?_ ?_
  ·refine zab ?_;simp only[rnA];obtain⟨T18,hT18⟩:=mkT fun a:(Int×(List (List Int)))=>⟨65,[(2,(.ptr 1 0)),(3,(.ptr 2 0)),(6,(.ptr 5 0)),(18,(fzE false zaa y1)),(19,(dI (y1.length:Int))),(20,(dI v20)),(40,(fzE false (eL (eI .i64)) y8)),(41,(dI (y8.length:Int))),(42,(dI a.1))],[.gone,.cells [(dI 0),zb0],.cells [(dI p0.grain),(.sl 3 0 3 l3.length none l3.length)],.grow 3 (l3.map (zaa.c false)),.gone,.cells [(dI x4.card),(fzE false (eI .i64) y6),(.sl 6 0 1 a.2.length none a.2.length)],.grow 1 (a.2.map ((eL (eI .i64)).c false))]⟩
   refine EvL.zed (zbD.zhj (n:=1) (β:=5) (o:=2) (by decide) rfl rfl) ?_;refine EvL.rounds (α:=(Int×(List (List Int)))) T18 (fun n a=>zdA y8 n a.1 a.2=some o17) ((y8.length:Int) - 0+2:Int).toNat (0,[]) (by rw[hT18]; exact wm0 [.d,.k,.k,.k,.d,.k,.k] ⟨rfl,⟨MB.cs ⟨qcO,qcO,qcO⟩,⟨MB.cs ⟨qcO,rfl,qcO⟩,⟨MB.gs zaa false l3,⟨rfl,⟨MB.cs ⟨qcO,qcO,rfl,qcO⟩,⟨MB.gs (eL (eI .i64)) false [],qcO⟩⟩⟩⟩⟩⟩⟩) j17 (fun _ h=>nomatch (show(none:Option (List (List Int)))=some o17 from h)) ?_;rintro n ⟨v42,l6⟩ j17;simp only[zdA]at j17;rw[congrFun hT18 (v42,l6)];refine zab ?_;try simp only[rnA,Nat.reduceEqDiff,Nat.reduceLT]
   cases c10:(decide (v42<(y8.length:Int)))
   ·rw[c10,cond_false]at j17;try simp only[rnA,Nat.reduceEqDiff,Nat.reduceLT,reduceCtorEq]
    replace j17:=qab j17; subst j17;exact lfj hT17 rfl (wm0 [.d,.k,.k,.k,.d,.k,.k] ⟨rfl,⟨MB.cs ⟨qcO,qcO,qcO⟩,⟨MB.cs ⟨qcO,rfl,qcO⟩,⟨MB.gs zaa false l3,⟨rfl,⟨MB.cs ⟨qcO,qcO,rfl,qcO⟩,⟨MB.gs (eL (eI .i64)) false l6,qcO⟩⟩⟩⟩⟩⟩⟩)
   rw[c10,cond_true]at j17;obtain⟨x11,g12,j17⟩:=bind_some j17;obtain⟨y13,g14,j17⟩:=bind_some j17;obtain⟨y15,g16,j17⟩:=bind_some j17;try simp only[rnA,Nat.reduceEqDiff,Nat.reduceLT,Nat.reduceAdd,Nat.reduceLeDiff,zak (n:=1) (e:=(eL (eI .i64))) rfl g12,zaj,zkZ (n:=1) (e:=(eI .i64)) rfl g14,zcS g16,(show l6.length+1=y15.length from zbT g16),(show l6.map ((eL (eI .i64)).c false)++ [[(fzE false (eI .i64) y13)]]=y15.map ((eL (eI .i64)).c false)from zcr g16 ((eL (eI .i64)).c false))]
   exact⟨((w64 (v42+1)),y15),j17,by rw[hT18]; exact wm0 [.d,.k,.k,.k,.d,.k,.k] ⟨rfl,⟨MB.cs ⟨qcO,qcO,qcO⟩,⟨MB.cs ⟨qcO,rfl,qcO⟩,⟨MB.gs zaa false l3,⟨rfl,⟨MB.cs ⟨qcO,qcO,rfl,qcO⟩,⟨MB.gs (eL (eI .i64)) false y15,qcO⟩⟩⟩⟩⟩⟩⟩⟩
  rintro l6 rfl;rw[congrFun hT17 l6];refine zab ?_;obtain⟨y17,g18,j9⟩:=bind_some j9;try simp only[rnA,Nat.reduceEqDiff,Nat.reduceLT,Nat.reduceAdd,Nat.reduceLeDiff,zcS g18,(show l3.length+1=y17.length from zbT g18)]
  exact⟨((w64 (v20+1)),y17),j9,by rw[hT16]; exact wm0 [.d,.k,.k,.k,.d,.d,.f] ⟨rfl,⟨MB.cs ⟨qcO,qcO,qcO⟩,⟨MB.cs ⟨qcO,rfl,qcO⟩,⟨MB.zaJ (ztL (e:=zaa) (t:=false) g18 (.cons (.cons (.same trivial) (.cons (.same trivial) (.cons (.fr (zep (e:=(eL (eI .i64))) (t:=false) rfl rfl (.inr rfl) rfl rfl (fun k h=>nomatch h) (fun h=>by cases h<;>contradiction))) .nil))) .nil)),qcO⟩⟩⟩⟩⟩
 rintro l3 rfl;rw[congrFun hT9 l3];refine zab ?_;try simp only[rnA,Nat.reduceEqDiff,Nat.reduceLT,Nat.reduceAdd,Nat.reduceLeDiff]
 replace h:=qab h; subst h;exact zkg.ret rfl (.zcX (.cons (.lit _) (.cons (zan (e:=zaa) (t:=false) rfl (.inr rfl) rfl rfl (fun k h=>nomatch h) (fun h=>nomatch h)) .nil)))
def zei(N:Nat)(p0:S_api_Net)(p1:S_haruspexref05_Draft)(p2:S_haruspexref05_Bend):Option A3_S_api_Net:=
(ze4 p0).bind fun r1=>
(zbH N p1).bind fun r3=>
(zbH N p1).bind fun r5=>
(zkP p2 r5).bind fun r7=>
some (A3_S_api_Net.mk r1 r3 r7)
theorem zlQ{N:Nat}{p0:S_api_Net}{p1:S_haruspexref05_Draft}{p2:S_haruspexref05_Bend}{r:A3_S_api_Net}(h:zei N p0 p1 p2=some r):Lx.FnA mC 6 [(.agg [(dI p0.grain),(fzE false zaa p0.nodes)]),(.agg [(dU8 p1.grain),(fzE false zai p1.nodes),(fzE false (eI .u8) p1.order)]),(.agg [(dU8 p2.what),(dU8 p2.at_),(dU8 p2.row),(dI p2.n)])] (.agg [(dI r.a0.grain),(fzE false zaa r.a0.nodes),(dI r.a1.grain),(fzE false zaa r.a1.nodes),(dI r.a2.grain),(fzE false zaa r.a2.nodes)]):=by
 refine zuD (by conv=>lhs; cbv) ?_;unfold zei at h;refine zab ?_;obtain⟨r1,g2,h⟩:=bind_some h;try simp only[rnA,Nat.reduceEqDiff,reduceIte,Nat.reduceLT,Nat.reduceAdd,Nat.reduceLeDiff,Nat.reduceMul,Nat.reduceSub,Int.reduceLE,Int.reduceLT,Int.reduceBEq,Nat.reduceBEq,reduceCtorEq,zay,zaU,zac,zas,za1,zb4,zdh]
 refine EvL.fnS (znN g2) rfl rfl (.cons (Mzs.agg (.cons (.lit _) (.cons (zdv _ _ (fun h=>by cases h<;>contradiction)) .nil))) .nil) ⟨⟨qcO,(zaH _ _),qcO⟩,qcO⟩ ⟨qcO,(zaH _ _),qcO⟩ ?_;obtain⟨r3,g4,h⟩:=bind_some h;try simp only[rnA,Nat.reduceEqDiff,reduceIte,Nat.reduceLT,Nat.reduceAdd,Nat.reduceLeDiff,Nat.reduceMul,Nat.reduceSub,Int.reduceLE,Int.reduceLT,Int.reduceBEq,Nat.reduceBEq,reduceCtorEq,zay,zaU,zac,zas,za1,zb4]
 refine EvL.fn (zeE g4) rfl rfl (.cons (.zcX (.cons (.lit _) (.cons (zar _ _ (fun h=>nomatch h)) (.cons (zar _ _ (fun h=>nomatch h)) .nil)))) .nil) ?_;obtain⟨r5,g6,h⟩:=bind_some h;try simp only[rnA,Nat.reduceEqDiff,reduceIte,Nat.reduceLT,Nat.reduceAdd,Nat.reduceLeDiff,Nat.reduceMul,Nat.reduceSub,Int.reduceLE,Int.reduceLT,Int.reduceBEq,Nat.reduceBEq,reduceCtorEq,zay,zaU,zac,zas,za1,zb4]
 refine EvL.fn (zeE g6) rfl rfl (.cons (.zcX (.cons (.lit _) (.cons (zar _ _ (fun h=>nomatch h)) (.cons (zar _ _ (fun h=>nomatch h)) .nil)))) .nil) ?_;obtain⟨r7,g8,h⟩:=bind_some h;try simp only[rnA,Nat.reduceEqDiff,reduceIte,Nat.reduceLT,Nat.reduceAdd,Nat.reduceLeDiff,Nat.reduceMul,Nat.reduceSub,Int.reduceLE,Int.reduceLT,Int.reduceBEq,Nat.reduceBEq,reduceCtorEq,zay,zaU,zac,zas,za1,zb4]
 refine EvL.fn (ztG g8) rfl rfl (.cons (.zcX (.cons (.lit _) (.cons (.lit _) (.cons (.lit _) (.cons (.lit _) .nil))))) (.cons (.zcX (.cons (.lit _) (.cons (zar _ _ (fun h=>nomatch h)) .nil))) .nil)) ?_;try simp only[rnA,Nat.reduceEqDiff,reduceIte,Nat.reduceLT,Nat.reduceAdd,Nat.reduceLeDiff,Nat.reduceMul,Nat.reduceSub,Int.reduceLE,Int.reduceLT,Int.reduceBEq,Nat.reduceBEq,reduceCtorEq,zay,zaU,zac,zas,za1,zb4]
 replace h:=qab h; subst h;exact zkg.ret rfl (.zcX (.cons (.lit _) (.cons (zar _ _ (fun h=>nomatch h)) (.cons (.lit _) (.cons (zar _ _ (fun h=>nomatch h)) (.cons (.lit _) (.cons (zar _ _ (fun h=>nomatch h)) .nil)))))))
end Go.Dc
