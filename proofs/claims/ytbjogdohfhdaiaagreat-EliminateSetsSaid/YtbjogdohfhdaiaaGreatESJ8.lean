/-
 What net_Ancestors computes. Conditions: none.
-/
import Derived.Test.YtbjogdohfhdaiaaGreatESJ7
set_option linter.unusedSimpArgs false
set_option linter.unusedVariables false
set_option maxRecDepth 100000
set_option maxHeartbeats 4000000
namespace Go.Dc
open Go Go.Mx Go.Lx Go.Proofs
def zbF(N:Nat)(p0:S_api_Net)(p1:Int):Option (Int×Int):=
(zdy p0).bind fun r1=>
bif (r1.2 == 0)then(
(zhP .u64 p1 (r1.1.net.nodes.length:Int)).bind fun q4=>
bif (q4 == 0)then(
(zdt N r1.1.sets p1).bind fun r7=>
some (r7,0))
else(
some (0,2)))
else(
some (0,r1.2))
theorem zeA{N:Nat}{p0:S_api_Net}{p1:Int}{r:(Int×Int)}(h:zbF N p0 p1=some r):Lx.Fn mC 31 [(.agg [(dI p0.grain),(fzE false zab p0.nodes)]),(dU p1)] (.tup [(dU r.1),(dI r.2)]):=by
 refine fnO (by conv=>lhs; cbv) ?_;unfold zbF at h;refine zaa ?_;obtain⟨r1,g2,h⟩:=bind_some h;try simp only[rnA,Nat.reduceEqDiff,reduceIte,Nat.reduceLT,Nat.reduceAdd,Nat.reduceLeDiff,Nat.reduceMul,Nat.reduceSub,Int.reduceLE,Int.reduceLT,Int.reduceBEq,Nat.reduceBEq,reduceCtorEq,zak,zaL,zea]
 refine EvL.fnS (ziQ g2) rfl rfl (.cons (Mzs.agg (.cons (.lit _) (.cons (zhb _ _ (fun h=>by cases h<;>contradiction)) .nil))) .nil) ⟨⟨qdn,(zcT _ _),qdn⟩,qdn⟩ ⟨⟨qdn,(zcT _ _),(zcT _ _),(zcT _ _),(zcT _ _),qdn⟩,qdn,qdn⟩ ?_;try simp only[rnA,Nat.reduceEqDiff,reduceIte,Nat.reduceLT,Nat.reduceAdd,Nat.reduceLeDiff,Nat.reduceMul,Nat.reduceSub,Int.reduceLE,Int.reduceLT,Int.reduceBEq,Nat.reduceBEq,reduceCtorEq,zak,zaL]
 cases c3:(r1.2 == 0)
 ·rw[c3,cond_false]at h;try simp only[rnA,Nat.reduceEqDiff,reduceIte,Nat.reduceLT,Nat.reduceAdd,Nat.reduceLeDiff,Nat.reduceMul,Nat.reduceSub,Int.reduceLE,Int.reduceLT,Int.reduceBEq,Nat.reduceBEq,reduceCtorEq,zak,zaL,c3]
  replace h:=qae h; subst h;exact zeb.ret rfl (Snp.zlF (.cons (.lit _) (.cons (.lit _) .nil)))
 rw[c3,cond_true]at h;obtain⟨q4,g5,h⟩:=bind_some h;try simp only[rnA,Nat.reduceEqDiff,reduceIte,Nat.reduceLT,Nat.reduceAdd,Nat.reduceLeDiff,Nat.reduceMul,Nat.reduceSub,Int.reduceLE,Int.reduceLT,Int.reduceBEq,Nat.reduceBEq,reduceCtorEq,zak,zaL,zaC,(zaX g5).1,(zaX g5).2,c3]
 cases c6:(q4 == 0)
 ·rw[c6,cond_false]at h;try simp only[rnA,Nat.reduceEqDiff,reduceIte,Nat.reduceLT,Nat.reduceAdd,Nat.reduceLeDiff,Nat.reduceMul,Nat.reduceSub,Int.reduceLE,Int.reduceLT,Int.reduceBEq,Nat.reduceBEq,reduceCtorEq,zak,zaL,c3,c6]
  replace h:=qae h; subst h;exact zeb.ret rfl (Snp.zlF (.cons (.lit _) (.cons (.lit _) .nil)))
 rw[c6,cond_true]at h;obtain⟨r7,g8,h⟩:=bind_some h;try simp only[rnA,Nat.reduceEqDiff,reduceIte,Nat.reduceLT,Nat.reduceAdd,Nat.reduceLeDiff,Nat.reduceMul,Nat.reduceSub,Int.reduceLE,Int.reduceLT,Int.reduceBEq,Nat.reduceBEq,reduceCtorEq,zak,zaL,c3,c6]
 refine EvL.fn (ziZ g8) rfl rfl (.cons (zaO _ _ (fun h=>nomatch h)) (.cons (.lit _) .nil)) ?_;try simp only[rnA,Nat.reduceEqDiff,reduceIte,Nat.reduceLT,Nat.reduceAdd,Nat.reduceLeDiff,Nat.reduceMul,Nat.reduceSub,Int.reduceLE,Int.reduceLT,Int.reduceBEq,Nat.reduceBEq,reduceCtorEq,zak,zaL,c3,c6]
 replace h:=qae h; subst h;exact zeb.ret rfl (Snp.zlF (.cons (.lit _) (.cons (.lit _) .nil)))
def zaA(p1:(List Int))(v11:Int)(v12:Int)(p3:Int)(p2:(List Int))(p4:Int):Nat→Int→Option (Out3 Unit (Int×Int) Int)
 | 0,_=>none
 | n+1,v20=>(
bif (decide (v20<(p1.length:Int)))then(
(zhP .u64 (zub .u64 (orI .u64 v11 v12) p3) v20).bind fun q4=>
((bif ((zfz .u64 q4 1)== 1)then(
(za3 p2 v20).bind fun x7=>
some (orI .u64 v11 x7))
else(
some v11):Option Int)).bind fun v14=>
(zhP .u64 (orI .u64 (zfz .u64 v11 p4) (zub .u64 v12 p3)) v20).bind fun q9=>
((bif ((zfz .u64 q9 1)== 1)then(
(za3 p1 v20).bind fun x12=>
some (orI .u64 v12 x12))
else(
some v12):Option Int)).bind fun v15=>
((bif (v14 == v11)then(
some (!(v15 == v12)))
else(
some true):Option Bool)).bind fun v64=>
bif v64 then(
some (.brk (v14,v15)))
else(
zaA p1 v11 v12 p3 p2 p4 n (w64 (v20+1))))
else(
some (.go ())))
def zaY(p1:(List Int))(p3:Int)(p2:(List Int))(p4:Int):Nat→Int→Int→Option (Out Unit Int)
 | 0,_,_=>none
 | n+1,v11,v12=>(
((zaA p1 v11 v12 p3 p2 p4 ((p1.length:Int) - 0+2:Int).toNat 0:Option (Out3 Unit (Int×Int) Int))).bind fun o=>match o with
| .go _=>(
some (.ret (zub .u64 (orI .u64 v11 v12) p3)))
| .brk (v11',v12')=>(
zaY p1 p3 p2 p4 n v11' v12')
| .ret r=>some (.ret r))
def zbs(N:Nat)(p0:Int)(p1:(List Int))(p2:(List Int))(p3:Int)(p4:Int):Option Int:=
(zmB .u64 1 p0).bind fun q1=>
((zaY p1 p3 p2 p4 N q1 0:Option (Out Unit Int))).bind fun o=>match o with
| .go _=>(
none)
| .ret r=>some r
theorem zfM{N:Nat}{p0:Int}{p1:(List Int)}{p2:(List Int)}{p3:Int}{p4:Int}{r:Int}(h:zbs N p0 p1 p2 p3 p4=some r):Lx.Fn mC 71 [(dI p0),(fzE false (eI .u64) p1),(fzE false (eI .u64) p2),(dU p3),(dU p4)] (dU r):=by
 refine fnO (by conv=>lhs; cbv) ?_;unfold zbs at h;refine zaa ?_;try simp only[rnA,Nat.reduceLT,Nat.reduceAdd]
 refine EvL.scope (zaa ?_);obtain⟨q1,g2,h⟩:=bind_some h;try simp only[rnA,Nat.reduceEqDiff,Nat.reduceLT,reduceCtorEq,(za6 g2).1,(za6 g2).2]
 obtain⟨o210,j210,h⟩:=bind_some h;obtain⟨T210,hT210⟩:=mkT fun a:Unit=>⟨73,[],[]⟩
 refine EvL.jn T210 (fun a=>o210=.go a) ?_ ?_
 ·refine zaa ?_;simp only[rnA];obtain⟨T257,hT257⟩:=mkT fun a:(Int×Int)=>⟨73,[(1,(fzE false (eI .u64) p1)),(2,(fzE false (eI .u64) p2)),(3,(dU p3)),(4,(dU p4)),(11,(dU a.1)),(12,(dU a.2))],[]⟩
  refine EvL.rounds (α:=(Int×Int)) T257 (fun n a=>zaY p1 p3 p2 p4 n a.1 a.2=some o210) N (q1,0) (by rw[hT257]; exact wm0 [] (by exact trivial)) j210 (fun _ h=>nomatch (show(none:Option (Out Unit Int))=some o210 from h)) ?_;rintro n ⟨v11,v12⟩ j210;simp only[zaY]at j210;rw[congrFun hT257 (v11,v12)];refine zaa ?_;try simp only[rnA,Nat.reduceEqDiff,Nat.reduceLT,zaC]
  obtain⟨o270,j270,j210⟩:=bind_some j210;obtain⟨T270,hT270⟩:=mkT fun a:Unit=>⟨73,[(3,(dU p3)),(11,(dU v11)),(12,(dU v12))],[]⟩
  obtain⟨TB270,hTB270⟩:∃ T:(Int×Int)→LSt,T=(fun a=>⟨73,[(1,(fzE false (eI .u64) p1)),(2,(fzE false (eI .u64) p2)),(3,(dU p3)),(4,(dU p4)),(11,(dU a.1)),(12,(dU a.2))],[]⟩):=⟨_,rfl⟩;refine EvL.jn2 (id:=1) T270 (fun a=>o270=.go a) TB270 (fun a=>o270=.brk a) (fun id S hx=>by first | (rcases hx with⟨hx | hx,_⟩<;> cases hx)| exact hx.elim) ?_ ?_ ?_
  ·refine zaa ?_;simp only[rnA];obtain⟨T277,hT277⟩:=mkT fun a:Int=>⟨73,[(1,(fzE false (eI .u64) p1)),(2,(fzE false (eI .u64) p2)),(3,(dU p3)),(4,(dU p4)),(11,(dU v11)),(12,(dU v12)),(19,(dI (p1.length:Int))),(20,(dI a))],[]⟩
   refine EvL.rounds (α:=Int) T277 (fun n a=>zaA p1 v11 v12 p3 p2 p4 n a=some o270) ((p1.length:Int) - 0+2:Int).toNat 0 (by rw[hT277]; exact wm0 [] (by exact trivial)) j270 (fun _ h=>nomatch (show(none:Option (Out3 Unit (Int×Int) Int))=some o270 from h)) ?_;rintro n v20 j270;simp only[zaA]at j270;rw[congrFun hT277 v20];refine zaa ?_;try simp only[rnA,Nat.reduceEqDiff,Nat.reduceLT]
   cases c3:(decide (v20<(p1.length:Int)))
   ·rw[c3,cond_false]at j270;try simp only[rnA,Nat.reduceEqDiff]
    replace j270:=qae j270; subst j270;exact lfj hT270 rfl (wm0 [] (by exact trivial))
   rw[c3,cond_true]at j270;obtain⟨q4,g5,j270⟩:=bind_some j270;try simp only[rnA,Nat.reduceEqDiff,Nat.reduceLT,(zaX g5).1,(zaX g5).2]
   obtain⟨o278,j278,j270⟩:=bind_some j270;obtain⟨T278,hT278⟩:=mkT fun a:Int=>⟨73,[(1,(fzE false (eI .u64) p1)),(2,(fzE false (eI .u64) p2)),(3,(dU p3)),(4,(dU p4)),(11,(dU v11)),(12,(dU v12)),(13,(dI v20)),(14,(dU a)),(15,(dU v12)),(19,(dI (p1.length:Int))),(20,(dI v20))],[]⟩
   refine EvL.jn T278 (fun a=>a=o278) ?_ ?_
   ·refine zaa ?_;try simp only[rnA,Nat.reduceEqDiff]
    cases c6:((zfz .u64 q4 1)== 1)
    ·rw[c6,cond_false]at j278;try simp only[rnA]
     replace j278:=qae j278; subst j278;exact lfj hT278 rfl (wm0 [] (by exact trivial))
    rw[c6,cond_true]at j278;obtain⟨x7,g8,j278⟩:=bind_some j278;try simp only[rnA,Nat.reduceEqDiff,Nat.reduceLT,zaS (n:=1) (e:=(eI .u64)) rfl g8]
    replace j278:=qae j278; subst j278;exact lfj hT278 rfl (wm0 [] (by exact trivial))
   rintro v14 rfl;rw[congrFun hT278 v14];refine zaa ?_;obtain⟨q9,g10,j270⟩:=bind_some j270;try simp only[rnA,Nat.reduceEqDiff,Nat.reduceLT,(zaX g10).1,(zaX g10).2]
   obtain⟨o279,j279,j270⟩:=bind_some j270;obtain⟨T279,hT279⟩:=mkT fun a:Int=>⟨73,[(1,(fzE false (eI .u64) p1)),(2,(fzE false (eI .u64) p2)),(3,(dU p3)),(4,(dU p4)),(11,(dU v11)),(12,(dU v12)),(14,(dU v14)),(15,(dU a)),(19,(dI (p1.length:Int))),(20,(dI v20))],[]⟩
   refine EvL.jn T279 (fun a=>a=o279) ?_ ?_
   ·refine zaa ?_;try simp only[rnA,Nat.reduceEqDiff]
    cases c11:((zfz .u64 q9 1)== 1)
    ·rw[c11,cond_false]at j279;try simp only[rnA]
     replace j279:=qae j279; subst j279;exact lfj hT279 rfl (wm0 [] (by exact trivial))
    rw[c11,cond_true]at j279;obtain⟨x12,g13,j279⟩:=bind_some j279;try simp only[rnA,Nat.reduceEqDiff,Nat.reduceLT,zaS (n:=1) (e:=(eI .u64)) rfl g13]
    replace j279:=qae j279; subst j279;exact lfj hT279 rfl (wm0 [] (by exact trivial))
   rintro v15 rfl;rw[congrFun hT279 v15];refine zaa ?_;try simp only[rnA]
   obtain⟨o280,j280,j270⟩:=bind_some j270;obtain⟨T280,hT280⟩:=mkT fun a:Bool=>⟨73,[(1,(fzE false (eI .u64) p1)),(2,(fzE false (eI .u64) p2)),(3,(dU p3)),(4,(dU p4)),(11,(dU v11)),(12,(dU v12)),(14,(dU v14)),(15,(dU v15)),(19,(dI (p1.length:Int))),(20,(dI v20)),(64,(dB a))],[]⟩
   refine EvL.jn T280 (fun a=>a=o280) ?_ ?_
   ·refine zaa ?_;try simp only[rnA,Nat.reduceEqDiff,Nat.reduceLT]
    cases c14:(v14 == v11)
    ·rw[c14,cond_false]at j280;try simp only[rnA,Nat.reduceEqDiff,Nat.reduceLT]
     replace j280:=qae j280; subst j280;exact lfj hT280 rfl (wm0 [] (by exact trivial))
    rw[c14,cond_true]at j280;try simp only[rnA,Nat.reduceEqDiff,Nat.reduceLT]
    replace j280:=qae j280; subst j280;exact lfj hT280 rfl (wm0 [] (by exact trivial))
   rintro v64 rfl;rw[congrFun hT280 v64];refine zaa ?_;try simp only[rnA,Nat.reduceEqDiff]
   cases c15:v64
   ·rw[c15,cond_false]at j270;try simp only[rnA,Nat.reduceEqDiff,Nat.reduceLT]
    exact⟨(w64 (v20+1)),j270,by rw[hT277]; exact wm0 [] (by exact trivial)⟩
   rw[c15,cond_true]at j270;try simp only[rnA,Nat.reduceEqDiff,Nat.reduceLT]
   replace j270:=qae j270; subst j270;exact⟨_,rfl,by rw[hTB270]; exact wm0 [] (by exact trivial)⟩
  ·rintro⟨⟩ rfl;dsimp only at j210;rw[congrFun hT270 ()];refine zaa ?_;try simp only[rnA,Nat.reduceEqDiff,Nat.reduceLT]
   replace j210:=qae j210; subst j210;dsimp only at h;replace h:=qae h; subst h;exact zeb.ret rfl (.lit _)
  rintro⟨v11',v12'⟩ rfl;dsimp only at j210;rw[congrFun hTB270 (v11',v12')];refine zaa ?_;try simp only[rnA,reduceCtorEq]
  exact⟨(v11',v12'),j210,by rw[hT257]; exact wm0 [] (by exact trivial)⟩
 rintro⟨⟩ rfl;dsimp only at h;exact nomatch h
def zat(x4:S_api_Node)(v29:Int)(p0:S_eliminate_query):Nat→Int→(List Int)→(List Int)→Option ((List Int)×(List Int))
 | 0,_,_,_=>none
 | n+1,v37,l1',l2'=>(
bif (decide (v37<(x4.parents.length:Int)))then(
(za3 x4.parents v37).bind fun x7=>
(za3 l1' v29).bind fun x9=>
(zmB .u64 1 x7).bind fun q11=>
(zfo l1' v29 (orI .u64 x9 q11)).bind fun y13=>
(za3 l2' x7).bind fun x15=>
(zmB .u64 1 v29).bind fun q17=>
(zfo l2' x7 (orI .u64 x15 q17)).bind fun y19=>
zat x4 v29 p0 n (w64 (v37+1)) y13 y19)
else(
some (l1',l2')))
def zap(p0:S_eliminate_query):Nat→Int→Int→(List Int)→(List Int)→Option (Int×(List Int)×(List Int))
 | 0,_,_,_,_=>none
 | n+1,v5,v29,l1,l2=>(
bif (decide (v29<(p0.net.nodes.length:Int)))then(
(za3 p0.net.nodes v29).bind fun x4=>
((zat x4 v29 p0 ((x4.parents.length:Int) - 0+2:Int).toNat 0 l1 l2:Option (((List Int)×(List Int))))).bind fun o=>match o with
|(l1',l2')=>(
(za3 p0.known v29).bind fun x21=>
((bif (decide (0≤x21))then(
(zmB .u64 1 v29).bind fun q24=>
some (orI .u64 v5 q24))
else(
some v5):Option Int)).bind fun v5'=>
zap p0 n v5' (w64 (v29+1)) l1' l2'))
else(
some (v5,l1,l2)))
def zau(p0:S_eliminate_query)(l1:(List Int)):Nat→Int→Int→Option Int
 | 0,_,_=>none
 | n+1,v5'',v78=>(
bif (decide (v78<(((Int.toNat (p0.net.nodes.length:Int)):Nat):Int)))then(
(za3 l1 v78).bind fun x28=>
(zhP .u64 v5'' v78).bind fun q30=>
((bif ((zfz .u64 q30 1)== 1)then(
some (orI .u64 v5'' x28))
else(
some v5''):Option Int)).bind fun v5'''=>
zau p0 l1 n v5''' (w64 (v78+1)))
else(
some v5''))
def zan(p0:S_eliminate_query)(l1:(List Int)):Nat→Int→Int→Option Int
 | 0,_,_=>none
 | n+1,v5',v74=>(
bif (decide (v74<(p0.net.nodes.length:Int)))then(
((zau p0 l1 ((((Int.toNat (p0.net.nodes.length:Int)):Nat):Int) - 0+2:Int).toNat v5' 0:Option Int)).bind fun v5''=>
zan p0 l1 n v5'' (w64 (v74+1)))
else(
some v5'))
def zav(N:Nat)(p0:S_eliminate_query)(l1:(List Int))(l2:(List Int))(v5:Int)(v5':Int):Nat→Int→Int→Option Int
 | 0,_,_=>none
 | n+1,v13,v103=>(
bif (decide (v103<(p0.net.nodes.length:Int)))then(
(zbs N v103 l1 l2 v5 v5').bind fun r37=>
(zhP .u64 r37 p0.node).bind fun q39=>
((bif ((zfz .u64 q39 1)== 1)then(
(zmB .u64 1 v103).bind fun q42=>
some (orI .u64 v13 q42))
else(
some v13):Option Int)).bind fun v13'=>
zav N p0 l1 l2 v5 v5' n v13' (w64 (v103+1)))
else(
some v13))
def zaK(N:Nat)(p0:S_eliminate_query):Option Int:=
(zen 8 (p0.net.nodes.length:Int) 0).bind fun y1=>
((zap p0 ((p0.net.nodes.length:Int) - 0+2:Int).toNat 0 0 y1 y1:Option ((Int×(List Int)×(List Int))))).bind fun o=>match o with
|(v5,l1,l2)=>(
((zan p0 l1 ((p0.net.nodes.length:Int) - 0+2:Int).toNat v5 0:Option Int)).bind fun v5'=>
(zhP .u64 v5 p0.node).bind fun q33=>
bif ((zfz .u64 q33 1)== 1)then(
some 0)
else(
((zav N p0 l1 l2 v5 v5' ((p0.net.nodes.length:Int) - 0+2:Int).toNat 0 0:Option Int)).bind fun v13=>
some v13))
def zcx:C:=
 .seq (rg [oW 1 0,
 ⟨some 2,.mov (.c (.int .u64 0)),none⟩])
 (.seq (rg [oF 15 0 1,
 oF 16 1 15,
 oL 17 16,
 oE 18 17,
 ⟨some 19,.mk 1 8 [(.int .u64 0)] (.s 18) (.s 18),none⟩,
 oM 3 19])
 (.seq (rg [oF 20 0 1,
 oF 21 1 20,
 oL 22 21,
 oE 23 22,
 ⟨some 24,.mk 1 8 [(.int .u64 0)] (.s 23) (.s 23),none⟩,
 oM 4 24])
 (.seq (rg [⟨some 5,.mov (.c (.int .u64 0)),none⟩])
 (.seq (.seq (rg [oF 25 0 1,
 oF 26 1 25,
 oL 27 26,
 oE 28 27,
 oK 29 0])
 (.scope (.block 0 (.loop (.seq (rg [oB 30 .lss 29 28])
 (.seq (.cond (.s 30) (.skip)
 (.exit 0))
 (.seq (.block 1 (.seq (rg [oM 31 29,
 oI 32 3 27 29,
 oN 33 3 32,
 ⟨some 7,.alloc [(.int .i64 0),(.slice none 0 0),(.slice none 0 0)],none⟩,
 oM 6 31,
 oS 3 7 33])
 (.seq (.seq (rg [oF 34 1 7,
 oL 35 34,
 oE 36 35,
 oK 37 0])
 (.scope (.block 2 (.loop (.seq (rg [oB 38 .lss 37 36])
 (.seq (.cond (.s 38) (.skip)
 (.exit 2))
 (.seq (.block 3 (.seq (rg [oI 39 1 35 37,
 oL 40 39,
 oM 9 40])
 (.seq (.reg true false [oM 41 3,
 oM 42 6,
 oI 43 1 41 42,
 oL 44 43,
 oM 45 9,
 ⟨some 46,.bin .shl (.c (.int .u64 1)) (.s 45),none⟩,
 oB 47 .or 44 46,
 oI 48 1 41 42,
 oS 1 48 47])
 (.reg true false [oM 49 4,
 oM 50 9,
 oI 51 1 49 50,
 oL 52 51,
 oM 53 6,
 ⟨some 54,.bin .shl (.c (.int .u64 1)) (.s 53),none⟩,
 oB 55 .or 52 54,
 oI 56 1 49 50,
 oS 1 56 55]))))
 (rg [oD 57 .add 37 1,
 oM 37 57]))))))))
 (.seq (rg [oF 58 2 1,
 oL 59 58,
 oM 60 6,
 oI 61 1 59 60,
 oL 62 61,
 oD 63 .geq 62 0])
 (.scope (.cond (.s 63) (rg [oM 64 5,
 oM 65 6,
 ⟨some 66,.bin .shl (.c (.int .u64 1)) (.s 65),none⟩,
 oB 67 .or 64 66,
 oM 5 67])
 (.skip)))))))
 (rg [oD 68 .add 29 1,
 oM 29 68]))))))))
 (.seq (rg [oM 69 5,
 oM 10 69])
 (.seq (.seq (rg [oF 70 0 1,
 oF 71 1 70,
 oL 72 71,
 oE 73 72,
 oK 74 0])
 (.scope (.block 4 (.loop (.seq (rg [oB 75 .lss 74 73])
 (.seq (.cond (.s 75) (.skip)
 (.exit 4))
 (.seq (.block 5 (.seq (rg [oM 76 3,
 oE 77 76,
 oK 78 0])
 (.scope (.block 6 (.loop (.seq (rg [oB 79 .lss 78 77])
 (.seq (.cond (.s 79) (.skip)
 (.exit 6))
 (.seq (.block 7 (.seq (rg [oM 80 78,
 oI 81 1 76 78,
 oL 82 81,
 oM 11 80,
 oM 12 82])
 (.seq (rg [oM 83 5,
 oM 84 11,
 oB 85 .shr 83 84,
 oDu 86 .and 85 1,
 oDu 87 .eql 86 1])
 (.scope (.cond (.s 87) (rg [oM 88 5,
 oM 89 12,
 oB 90 .or 88 89,
 oM 5 90])
 (.skip))))))
 (rg [oD 91 .add 78 1,
 oM 78 91])))))))))
 (rg [oD 92 .add 74 1,
 oM 74 92]))))))))
 (.seq (.seq (rg [oM 93 10,
 oF 94 3 1,
 oL 95 94,
 oB 96 .shr 93 95,
 oDu 97 .and 96 1,
 oDu 98 .eql 97 1])
 (.cond (.s 98) (.seq (rg [⟨some 2,.mov (.c (.int .u64 0)),none⟩])
 (.ret))
 (.skip)))
 (.seq (rg [⟨some 13,.mov (.c (.int .u64 0)),none⟩])
 (.seq (.seq (rg [oF 99 0 1,
 oF 100 1 99,
 oL 101 100,
 oE 102 101,
 oK 103 0])
 (.scope (.block 8 (.loop (.seq (rg [oB 104 .lss 103 102])
 (.seq (.cond (.s 104) (.skip)
 (.exit 8))
 (.seq (.block 9 (.seq (rg [oM 105 103,
 oM 14 105])
 (.seq (.reg true true [oM 106 14,
 oM 107 3,
 oM 108 4,
 oM 109 10,
 oM 110 5,
 oF 112 3 1,
 oL 113 112,
 ⟨some 111,.call 71 [(.s 106),(.s 107),(.s 108),(.s 109),(.s 110)],none⟩,
 oB 114 .shr 111 113,
 oDu 115 .and 114 1,
 oDu 116 .eql 115 1])
 (.scope (.cond (.s 116) (rg [oM 117 13,
 oM 118 14,
 ⟨some 119,.bin .shl (.c (.int .u64 1)) (.s 118),none⟩,
 oB 120 .or 117 119,
 oM 13 120])
 (.skip))))))
 (rg [oD 121 .add 103 1,
 oM 103 121]))))))))
 (.seq (rg [oM 122 13,
 oM 2 122])
 (.ret)))))))))))
theorem zdM:zl2 mC 43=some (123,zcx,[.tmp 2],false):=zcP (by kernel_rfl)
theorem zd0{N:Nat}{p0:S_eliminate_query}{r:Int}(h:zaK N p0=some r):Lx.Fn mC 43 [(.agg [(dI p0.net.grain),(fzE false zab p0.net.nodes),(fzE false (eI .i64) p0.known),(dI p0.node)])] (dU r):=by
 refine Fn.of zdM (zcj rfl) (qai rfl) ?_;unfold zaK at h;simp only[zcx,zss];refine zaa ?_;obtain⟨y1,g2,h⟩:=bind_some h;try simp only[rnA,Nat.reduceEqDiff,Nat.reduceLT,Nat.reduceAdd,reduceCtorEq,zaC,(zbX g2).1.1,(zbX g2).1.2,qdi,(show List.replicate (Int.toNat (p0.net.nodes.length:Int)) [(dU 0)]=y1.map ((eI .u64).c true)from zec g2 ((eI .u64).c true))]
 obtain⟨o10,j10,h⟩:=bind_some h;obtain⟨T10,hT10⟩:=mkT fun a:(Int×(List Int)×(List Int))=>⟨123,[(1,(.ptr 0 0)),(3,(.sl 1 0 1 (Int.toNat (p0.net.nodes.length:Int)) (some (Int.toNat (p0.net.nodes.length:Int))) (Int.toNat (p0.net.nodes.length:Int)))),(4,(.sl 2 0 1 (Int.toNat (p0.net.nodes.length:Int)) (some (Int.toNat (p0.net.nodes.length:Int))) (Int.toNat (p0.net.nodes.length:Int)))),(5,(dU a.1))],[.cells [(dI p0.net.grain),(fzE false zab p0.net.nodes),(fzE false (eI .i64) p0.known),(dI p0.node)],.els 1 (a.2.1.map ((eI .u64).c true)),.els 1 (a.2.2.map ((eI .u64).c true))]⟩
 refine EvL.jn T10 (fun a=>a=o10∧a.2.1.length=(Int.toNat (p0.net.nodes.length:Int))∧a.2.2.length=(Int.toNat (p0.net.nodes.length:Int))) ?_ ?_
 ·refine zaa ?_;simp only[rnA];obtain⟨T17,hT17⟩:=mkT fun a:(Int×Int×(List Int)×(List Int))=>⟨123,[(1,(.ptr 0 0)),(3,(.sl 1 0 1 (Int.toNat (p0.net.nodes.length:Int)) (some (Int.toNat (p0.net.nodes.length:Int))) (Int.toNat (p0.net.nodes.length:Int)))),(4,(.sl 2 0 1 (Int.toNat (p0.net.nodes.length:Int)) (some (Int.toNat (p0.net.nodes.length:Int))) (Int.toNat (p0.net.nodes.length:Int)))),(5,(dU a.1)),(27,(fzE false zab p0.net.nodes)),(28,(dI (p0.net.nodes.length:Int))),(29,(dI a.2.1))],[.cells [(dI p0.net.grain),(fzE false zab p0.net.nodes),(fzE false (eI .i64) p0.known),(dI p0.node)],.els 1 (a.2.2.1.map ((eI .u64).c true)),.els 1 (a.2.2.2.map ((eI .u64).c true))]⟩
  refine EvL.rounds (α:=(Int×Int×(List Int)×(List Int))) T17 (fun n a=>zap p0 n a.1 a.2.1 a.2.2.1 a.2.2.2=some o10∧a.2.2.1.length=(Int.toNat (p0.net.nodes.length:Int))∧a.2.2.2.length=(Int.toNat (p0.net.nodes.length:Int))) ((p0.net.nodes.length:Int) - 0+2:Int).toNat (0,0,y1,y1) (by rw[hT17]; exact wm0 [.k,.k,.k] ⟨MB.cs ⟨qdn,qdn,qdn,qdn,qdn⟩,⟨MB.es (eI .u64) true y1,⟨MB.es (eI .u64) true y1,qdn⟩⟩⟩) ⟨j10,zdi g2,zdi g2⟩ (fun _ h=>nomatch (show(none:Option (Int×(List Int)×(List Int)))=some o10 from h.1)) ?_;rintro n ⟨v5,v29,l1,l2⟩ ⟨j10,el1,el2⟩;simp only[zap]at j10;rw[congrFun hT17 (v5,v29,l1,l2)];refine zaa ?_;try simp only[rnA,Nat.reduceEqDiff,Nat.reduceLT]
  cases c3:(decide (v29<(p0.net.nodes.length:Int)))
  ·rw[c3,cond_false]at j10;try simp only[rnA]
   replace j10:=qae j10; subst j10;exact⟨_,⟨rfl,el1,el2⟩,by rw[hT10]; exact wm0 [.k,.k,.k] ⟨MB.cs ⟨qdn,qdn,qdn,qdn,qdn⟩,⟨MB.es (eI .u64) true l1,⟨MB.es (eI .u64) true l2,qdn⟩⟩⟩⟩
  rw[c3,cond_true]at j10;obtain⟨x4,g5,j10⟩:=bind_some j10;try simp only[rnA,Nat.reduceEqDiff,Nat.reduceLT,Nat.reduceAdd,Nat.reduceLeDiff,zak,zaS (n:=3) (e:=zab) rfl g5,zaC]
  obtain⟨o18,j18,j10⟩:=bind_some j10;obtain⟨T18,hT18⟩:=mkT fun a:((List Int)×(List Int))=>⟨123,[(1,(.ptr 0 0)),(3,(.sl 1 0 1 (Int.toNat (p0.net.nodes.length:Int)) (some (Int.toNat (p0.net.nodes.length:Int))) (Int.toNat (p0.net.nodes.length:Int)))),(4,(.sl 2 0 1 (Int.toNat (p0.net.nodes.length:Int)) (some (Int.toNat (p0.net.nodes.length:Int))) (Int.toNat (p0.net.nodes.length:Int)))),(5,(dU v5)),(6,(dI v29)),(27,(fzE false zab p0.net.nodes)),(28,(dI (p0.net.nodes.length:Int))),(29,(dI v29))],[.cells [(dI p0.net.grain),(fzE false zab p0.net.nodes),(fzE false (eI .i64) p0.known),(dI p0.node)],.els 1 (a.1.map ((eI .u64).c true)),.els 1 (a.2.map ((eI .u64).c true))]⟩
  refine EvL.jn T18 (fun a=>a=o18∧a.1.length=(Int.toNat (p0.net.nodes.length:Int))∧a.2.length=(Int.toNat (p0.net.nodes.length:Int))) ?_ ?_
  ·refine zaa ?_;simp only[rnA];obtain⟨T19,hT19⟩:=mkT fun a:(Int×(List Int)×(List Int))=>⟨123,[(1,(.ptr 0 0)),(3,(.sl 1 0 1 (Int.toNat (p0.net.nodes.length:Int)) (some (Int.toNat (p0.net.nodes.length:Int))) (Int.toNat (p0.net.nodes.length:Int)))),(4,(.sl 2 0 1 (Int.toNat (p0.net.nodes.length:Int)) (some (Int.toNat (p0.net.nodes.length:Int))) (Int.toNat (p0.net.nodes.length:Int)))),(5,(dU v5)),(6,(dI v29)),(27,(fzE false zab p0.net.nodes)),(28,(dI (p0.net.nodes.length:Int))),(29,(dI v29)),(35,(fzE false (eI .i64) x4.parents)),(36,(dI (x4.parents.length:Int))),(37,(dI a.1))],[.cells [(dI p0.net.grain),(fzE false zab p0.net.nodes),(fzE false (eI .i64) p0.known),(dI p0.node)],.els 1 (a.2.1.map ((eI .u64).c true)),.els 1 (a.2.2.map ((eI .u64).c true))]⟩
   refine EvL.rounds (α:=(Int×(List Int)×(List Int))) T19 (fun n a=>zat x4 v29 p0 n a.1 a.2.1 a.2.2=some o18∧a.2.1.length=(Int.toNat (p0.net.nodes.length:Int))∧a.2.2.length=(Int.toNat (p0.net.nodes.length:Int))) ((x4.parents.length:Int) - 0+2:Int).toNat (0,l1,l2) (by rw[hT19]; exact wm0 [.k,.k,.k] ⟨MB.cs ⟨qdn,qdn,qdn,qdn,qdn⟩,⟨MB.es (eI .u64) true l1,⟨MB.es (eI .u64) true l2,qdn⟩⟩⟩) ⟨j18,el1,el2⟩ (fun _ h=>nomatch (show(none:Option ((List Int)×(List Int)))=some o18 from h.1)) ?_;rintro n ⟨v37,l1',l2'⟩ ⟨j18,el1',el2'⟩;simp only[zat]at j18;rw[congrFun hT19 (v37,l1',l2')];refine zaa ?_;try simp only[rnA,Nat.reduceEqDiff,Nat.reduceLT]
   cases c6:(decide (v37<(x4.parents.length:Int)))
   ·rw[c6,cond_false]at j18;try simp only[rnA,Nat.reduceEqDiff,Nat.reduceLT,reduceCtorEq]
    replace j18:=qae j18; subst j18;exact⟨_,⟨rfl,el1',el2'⟩,by rw[hT18]; exact wm0 [.k,.k,.k] ⟨MB.cs ⟨qdn,qdn,qdn,qdn,qdn⟩,⟨MB.es (eI .u64) true l1',⟨MB.es (eI .u64) true l2',qdn⟩⟩⟩⟩
   rw[c6,cond_true]at j18;obtain⟨x7,g8,j18⟩:=bind_some j18;obtain⟨x9,g10,j18⟩:=bind_some j18;obtain⟨q11,g12,j18⟩:=bind_some j18;obtain⟨y13,g14,j18⟩:=bind_some j18;obtain⟨x15,g16,j18⟩:=bind_some j18;obtain⟨q17,g18,j18⟩:=bind_some j18;obtain⟨y19,g20,j18⟩:=bind_some j18;try simp only[rnA,Nat.reduceEqDiff,Nat.reduceLT,Nat.reduceLeDiff,zaS (n:=1) (e:=(eI .i64)) rfl g8,el1',zcd g10,(show v29<(((Int.toNat (p0.net.nodes.length:Int)):Nat):Int)from el1' ▸ zcm g10),zby g10 ((eI .u64).c true),(za6 g12).1,(za6 g12).2,(show(l1'.map ((eI .u64).c true)).set v29.toNat [(dU (orI .u64 x9 q11))]=y13.map ((eI .u64).c true)from zdb g14 ((eI .u64).c true)),el2',(show x7<(((Int.toNat (p0.net.nodes.length:Int)):Nat):Int)from el2' ▸ zcm g16),zby g16 ((eI .u64).c true),(za6 g18).2,(show(l2'.map ((eI .u64).c true)).set x7.toNat [(dU (orI .u64 x15 q17))]=y19.map ((eI .u64).c true)from zdb g20 ((eI .u64).c true))]
   exact⟨((w64 (v37+1)),y13,y19),⟨j18,(zcM g14).trans el1',(zcM g20).trans el2'⟩,by rw[hT19]; exact wm0 [.k,.k,.k] ⟨MB.cs ⟨qdn,qdn,qdn,qdn,qdn⟩,⟨MB.es (eI .u64) true y13,⟨MB.es (eI .u64) true y19,qdn⟩⟩⟩⟩
  rintro⟨l1',l2'⟩ ⟨rfl,el1',el2'⟩;dsimp only at j10;rw[congrFun hT18 (l1',l2')];refine zaa ?_;obtain⟨x21,g22,j10⟩:=bind_some j10;try simp only[rnA,Nat.reduceEqDiff,Nat.reduceLT,zaS (n:=1) (e:=(eI .i64)) rfl g22]
  obtain⟨o20,j20,j10⟩:=bind_some j10;obtain⟨T20,hT20⟩:=mkT fun a:Int=>⟨123,[(1,(.ptr 0 0)),(3,(.sl 1 0 1 (Int.toNat (p0.net.nodes.length:Int)) (some (Int.toNat (p0.net.nodes.length:Int))) (Int.toNat (p0.net.nodes.length:Int)))),(4,(.sl 2 0 1 (Int.toNat (p0.net.nodes.length:Int)) (some (Int.toNat (p0.net.nodes.length:Int))) (Int.toNat (p0.net.nodes.length:Int)))),(5,(dU a)),(27,(fzE false zab p0.net.nodes)),(28,(dI (p0.net.nodes.length:Int))),(29,(dI v29))],[.cells [(dI p0.net.grain),(fzE false zab p0.net.nodes),(fzE false (eI .i64) p0.known),(dI p0.node)],.els 1 (l1'.map ((eI .u64).c true)),.els 1 (l2'.map ((eI .u64).c true))]⟩
  refine EvL.jn T20 (fun a=>a=o20) ?_ ?_
  ·refine zaa ?_;try simp only[rnA,Nat.reduceEqDiff]
   cases c23:(decide (0≤x21))
   ·rw[c23,cond_false]at j20;try simp only[rnA]
    replace j20:=qae j20; subst j20;exact lfj hT20 rfl (wm0 [.k,.k,.k] ⟨MB.cs ⟨qdn,qdn,qdn,qdn,qdn⟩,⟨MB.es (eI .u64) true l1',⟨MB.es (eI .u64) true l2',qdn⟩⟩⟩)
   rw[c23,cond_true]at j20;obtain⟨q24,g25,j20⟩:=bind_some j20;try simp only[rnA,Nat.reduceEqDiff,Nat.reduceLT,(za6 g25).1,(za6 g25).2]
   replace j20:=qae j20; subst j20;exact lfj hT20 rfl (wm0 [.k,.k,.k] ⟨MB.cs ⟨qdn,qdn,qdn,qdn,qdn⟩,⟨MB.es (eI .u64) true l1',⟨MB.es (eI .u64) true l2',qdn⟩⟩⟩)
  rintro v5' rfl;rw[congrFun hT20 v5'];refine zaa ?_;try simp only[rnA,Nat.reduceEqDiff,Nat.reduceLT]
  exact⟨(v5',(w64 (v29+1)),l1',l2'),⟨j10,el1',el2'⟩,by rw[hT17]; exact wm0 [.k,.k,.k] ⟨MB.cs ⟨qdn,qdn,qdn,qdn,qdn⟩,⟨MB.es (eI .u64) true l1',⟨MB.es (eI .u64) true l2',qdn⟩⟩⟩⟩
 rintro⟨v5,l1,l2⟩ ⟨rfl,el1,el2⟩;dsimp only at h;rw[congrFun hT10 (v5,l1,l2)];refine zaa ?_;try simp only[rnA,Nat.reduceEqDiff,Nat.reduceLT,zaC]
 obtain⟨o45,j45,h⟩:=bind_some h;obtain⟨T45,hT45⟩:=mkT fun a:Int=>⟨123,[(1,(.ptr 0 0)),(3,(.sl 1 0 1 (Int.toNat (p0.net.nodes.length:Int)) (some (Int.toNat (p0.net.nodes.length:Int))) (Int.toNat (p0.net.nodes.length:Int)))),(4,(.sl 2 0 1 (Int.toNat (p0.net.nodes.length:Int)) (some (Int.toNat (p0.net.nodes.length:Int))) (Int.toNat (p0.net.nodes.length:Int)))),(5,(dU a)),(10,(dU v5))],[.cells [(dI p0.net.grain),(fzE false zab p0.net.nodes),(fzE false (eI .i64) p0.known),(dI p0.node)],.els 1 (l1.map ((eI .u64).c true)),.els 1 (l2.map ((eI .u64).c true))]⟩
 refine EvL.jn T45 (fun a=>a=o45) ?_ ?_
 ·refine zaa ?_;simp only[rnA];obtain⟨T62,hT62⟩:=mkT fun a:(Int×Int)=>⟨123,[(1,(.ptr 0 0)),(3,(.sl 1 0 1 (Int.toNat (p0.net.nodes.length:Int)) (some (Int.toNat (p0.net.nodes.length:Int))) (Int.toNat (p0.net.nodes.length:Int)))),(4,(.sl 2 0 1 (Int.toNat (p0.net.nodes.length:Int)) (some (Int.toNat (p0.net.nodes.length:Int))) (Int.toNat (p0.net.nodes.length:Int)))),(5,(dU a.1)),(10,(dU v5)),(73,(dI (p0.net.nodes.length:Int))),(74,(dI a.2))],[.cells [(dI p0.net.grain),(fzE false zab p0.net.nodes),(fzE false (eI .i64) p0.known),(dI p0.node)],.els 1 (l1.map ((eI .u64).c true)),.els 1 (l2.map ((eI .u64).c true))]⟩
  refine EvL.rounds (α:=(Int×Int)) T62 (fun n a=>zan p0 l1 n a.1 a.2=some o45) ((p0.net.nodes.length:Int) - 0+2:Int).toNat (v5,0) (by rw[hT62]; exact wm0 [.k,.k,.k] ⟨MB.cs ⟨qdn,qdn,qdn,qdn,qdn⟩,⟨MB.es (eI .u64) true l1,⟨MB.es (eI .u64) true l2,qdn⟩⟩⟩) j45 (fun _ h=>nomatch (show(none:Option Int)=some o45 from h)) ?_;rintro n ⟨v5',v74⟩ j45;simp only[zan]at j45;rw[congrFun hT62 (v5',v74)];refine zaa ?_;try simp only[rnA,Nat.reduceEqDiff,Nat.reduceLT]
  cases c26:(decide (v74<(p0.net.nodes.length:Int)))
  ·rw[c26,cond_false]at j45;try simp only[rnA]
   replace j45:=qae j45; subst j45;exact lfj hT45 rfl (wm0 [.k,.k,.k] ⟨MB.cs ⟨qdn,qdn,qdn,qdn,qdn⟩,⟨MB.es (eI .u64) true l1,⟨MB.es (eI .u64) true l2,qdn⟩⟩⟩)
  rw[c26,cond_true]at j45;try simp only[rnA,Nat.reduceEqDiff,Nat.reduceLT,el1]
  obtain⟨o66,j66,j45⟩:=bind_some j45;obtain⟨T66,hT66⟩:=mkT fun a:Int=>⟨123,[(1,(.ptr 0 0)),(3,(.sl 1 0 1 (Int.toNat (p0.net.nodes.length:Int)) (some (Int.toNat (p0.net.nodes.length:Int))) (Int.toNat (p0.net.nodes.length:Int)))),(4,(.sl 2 0 1 (Int.toNat (p0.net.nodes.length:Int)) (some (Int.toNat (p0.net.nodes.length:Int))) (Int.toNat (p0.net.nodes.length:Int)))),(5,(dU a)),(10,(dU v5)),(73,(dI (p0.net.nodes.length:Int))),(74,(dI v74))],[.cells [(dI p0.net.grain),(fzE false zab p0.net.nodes),(fzE false (eI .i64) p0.known),(dI p0.node)],.els 1 (l1.map ((eI .u64).c true)),.els 1 (l2.map ((eI .u64).c true))]⟩
  refine EvL.jn T66 (fun a=>a=o66) ?_ ?_
  ·refine zaa ?_;simp only[rnA];obtain⟨T69,hT69⟩:=mkT fun a:(Int×Int)=>⟨123,[(1,(.ptr 0 0)),(3,(.sl 1 0 1 (Int.toNat (p0.net.nodes.length:Int)) (some (Int.toNat (p0.net.nodes.length:Int))) (Int.toNat (p0.net.nodes.length:Int)))),(4,(.sl 2 0 1 (Int.toNat (p0.net.nodes.length:Int)) (some (Int.toNat (p0.net.nodes.length:Int))) (Int.toNat (p0.net.nodes.length:Int)))),(5,(dU a.1)),(10,(dU v5)),(73,(dI (p0.net.nodes.length:Int))),(74,(dI v74)),(76,(.sl 1 0 1 (Int.toNat (p0.net.nodes.length:Int)) (some (Int.toNat (p0.net.nodes.length:Int))) (Int.toNat (p0.net.nodes.length:Int)))),(77,(dI (((Int.toNat (p0.net.nodes.length:Int)):Nat):Int))),(78,(dI a.2))],[.cells [(dI p0.net.grain),(fzE false zab p0.net.nodes),(fzE false (eI .i64) p0.known),(dI p0.node)],.els 1 (l1.map ((eI .u64).c true)),.els 1 (l2.map ((eI .u64).c true))]⟩
   refine EvL.rounds (α:=(Int×Int)) T69 (fun n a=>zau p0 l1 n a.1 a.2=some o66) ((((Int.toNat (p0.net.nodes.length:Int)):Nat):Int) - 0+2:Int).toNat (v5',0) (by rw[hT69]; exact wm0 [.k,.k,.k] ⟨MB.cs ⟨qdn,qdn,qdn,qdn,qdn⟩,⟨MB.es (eI .u64) true l1,⟨MB.es (eI .u64) true l2,qdn⟩⟩⟩) j66 (fun _ h=>nomatch (show(none:Option Int)=some o66 from h)) ?_;rintro n ⟨v5'',v78⟩ j66;simp only[zau]at j66;rw[congrFun hT69 (v5'',v78)];refine zaa ?_;try simp only[rnA,Nat.reduceEqDiff,Nat.reduceLT]
   cases c27:(decide (v78<(((Int.toNat (p0.net.nodes.length:Int)):Nat):Int)))
   ·rw[c27,cond_false]at j66;try simp only[rnA,Nat.reduceEqDiff,Nat.reduceLT]
    replace j66:=qae j66; subst j66;exact lfj hT66 rfl (wm0 [.k,.k,.k] ⟨MB.cs ⟨qdn,qdn,qdn,qdn,qdn⟩,⟨MB.es (eI .u64) true l1,⟨MB.es (eI .u64) true l2,qdn⟩⟩⟩)
   rw[c27,cond_true]at j66;obtain⟨x28,g29,j66⟩:=bind_some j66;obtain⟨q30,g31,j66⟩:=bind_some j66;try simp only[rnA,Nat.reduceEqDiff,Nat.reduceLT,el1,zcd g29,(show v78<(((Int.toNat (p0.net.nodes.length:Int)):Nat):Int)from el1 ▸ zcm g29),zby g29 ((eI .u64).c true),(zaX g31).2]
   obtain⟨o70,j70,j66⟩:=bind_some j66;obtain⟨T70,hT70⟩:=mkT fun a:Int=>⟨123,[(1,(.ptr 0 0)),(3,(.sl 1 0 1 (Int.toNat (p0.net.nodes.length:Int)) (some (Int.toNat (p0.net.nodes.length:Int))) (Int.toNat (p0.net.nodes.length:Int)))),(4,(.sl 2 0 1 (Int.toNat (p0.net.nodes.length:Int)) (some (Int.toNat (p0.net.nodes.length:Int))) (Int.toNat (p0.net.nodes.length:Int)))),(5,(dU a)),(10,(dU v5)),(73,(dI (p0.net.nodes.length:Int))),(74,(dI v74)),(76,(.sl 1 0 1 (Int.toNat (p0.net.nodes.length:Int)) (some (Int.toNat (p0.net.nodes.length:Int))) (Int.toNat (p0.net.nodes.length:Int)))),(77,(dI (((Int.toNat (p0.net.nodes.length:Int)):Nat):Int))),(78,(dI v78))],[.cells [(dI p0.net.grain),(fzE false zab p0.net.nodes),(fzE false (eI .i64) p0.known),(dI p0.node)],.els 1 (l1.map ((eI .u64).c true)),.els 1 (l2.map ((eI .u64).c true))]⟩
   refine EvL.jn T70 (fun a=>a=o70) ?_ ?_
   ·refine zaa ?_;try simp only[rnA,Nat.reduceEqDiff]
    cases c32:((zfz .u64 q30 1)== 1)
    ·rw[c32,cond_false]at j70;try simp only[rnA]
     replace j70:=qae j70; subst j70;exact lfj hT70 rfl (wm0 [.k,.k,.k] ⟨MB.cs ⟨qdn,qdn,qdn,qdn,qdn⟩,⟨MB.es (eI .u64) true l1,⟨MB.es (eI .u64) true l2,qdn⟩⟩⟩)
    rw[c32,cond_true]at j70;try simp only[rnA,Nat.reduceEqDiff,Nat.reduceLT]
    replace j70:=qae j70; subst j70;exact lfj hT70 rfl (wm0 [.k,.k,.k] ⟨MB.cs ⟨qdn,qdn,qdn,qdn,qdn⟩,⟨MB.es (eI .u64) true l1,⟨MB.es (eI .u64) true l2,qdn⟩⟩⟩)
   rintro v5''' rfl;rw[congrFun hT70 v5'''];refine zaa ?_;try simp only[rnA,Nat.reduceEqDiff,Nat.reduceLT]
   exact⟨(v5''',(w64 (v78+1))),j66,by rw[hT69]; exact wm0 [.k,.k,.k] ⟨MB.cs ⟨qdn,qdn,qdn,qdn,qdn⟩,⟨MB.es (eI .u64) true l1,⟨MB.es (eI .u64) true l2,qdn⟩⟩⟩⟩
  rintro v5'' rfl;rw[congrFun hT66 v5''];refine zaa ?_;try simp only[rnA,Nat.reduceEqDiff,Nat.reduceLT]
  exact⟨(v5'',(w64 (v74+1))),j45,by rw[hT62]; exact wm0 [.k,.k,.k] ⟨MB.cs ⟨qdn,qdn,qdn,qdn,qdn⟩,⟨MB.es (eI .u64) true l1,⟨MB.es (eI .u64) true l2,qdn⟩⟩⟩⟩
 rintro v5' rfl;rw[congrFun hT45 v5'];refine zaa ?_;obtain⟨q33,g34,h⟩:=bind_some h;try simp only[rnA,Nat.reduceEqDiff,Nat.reduceLT,(zaX g34).1,(zaX g34).2]
 cases c35:((zfz .u64 q33 1)== 1)
 ·rw[c35,cond_false]at h;try simp only[rnA,Nat.reduceEqDiff,Nat.reduceLT,zaC]
  obtain⟨o74,j74,h⟩:=bind_some h;obtain⟨T74,hT74⟩:=mkT fun a:Int=>⟨123,[(13,(dU a))],[]⟩
  refine EvL.jn T74 (fun a=>a=o74) ?_ ?_
  ·refine zaa ?_;simp only[rnA];obtain⟨T77,hT77⟩:=mkT fun a:(Int×Int)=>⟨123,[(1,(.ptr 0 0)),(3,(.sl 1 0 1 (Int.toNat (p0.net.nodes.length:Int)) (some (Int.toNat (p0.net.nodes.length:Int))) (Int.toNat (p0.net.nodes.length:Int)))),(4,(.sl 2 0 1 (Int.toNat (p0.net.nodes.length:Int)) (some (Int.toNat (p0.net.nodes.length:Int))) (Int.toNat (p0.net.nodes.length:Int)))),(5,(dU v5')),(10,(dU v5)),(13,(dU a.1)),(102,(dI (p0.net.nodes.length:Int))),(103,(dI a.2))],[.cells [(dI p0.net.grain),(fzE false zab p0.net.nodes),(fzE false (eI .i64) p0.known),(dI p0.node)],.els 1 (l1.map ((eI .u64).c true)),.els 1 (l2.map ((eI .u64).c true))]⟩
   refine EvL.rounds (α:=(Int×Int)) T77 (fun n a=>zav N p0 l1 l2 v5 v5' n a.1 a.2=some o74) ((p0.net.nodes.length:Int) - 0+2:Int).toNat (0,0) (by rw[hT77]; exact wm0 [.k,.k,.k] ⟨MB.cs ⟨qdn,qdn,qdn,qdn,qdn⟩,⟨MB.es (eI .u64) true l1,⟨MB.es (eI .u64) true l2,qdn⟩⟩⟩) j74 (fun _ h=>nomatch (show(none:Option Int)=some o74 from h)) ?_;rintro n ⟨v13,v103⟩ j74;simp only[zav]at j74;rw[congrFun hT77 (v13,v103)];refine zaa ?_;try simp only[rnA,Nat.reduceEqDiff,Nat.reduceLT]
   cases c36:(decide (v103<(p0.net.nodes.length:Int)))
   ·rw[c36,cond_false]at j74;try simp only[rnA]
    replace j74:=qae j74; subst j74;exact lfj hT74 rfl (wm0 [] (by exact trivial))
   rw[c36,cond_true]at j74;obtain⟨r37,g38,j74⟩:=bind_some j74;try simp only[rnA,Nat.reduceEqDiff,Nat.reduceLT]
   refine EvL.fn (zfM g38) rfl rfl (.cons (.lit _) (.cons (zcn (e:=(eI .u64)) (t:=true) rfl (.inl rfl) (el1).symm (el1).symm (fun k h=>by cases h; exact qan _) (fun h=>nomatch h)) (.cons (zcn (e:=(eI .u64)) (t:=true) rfl (.inl rfl) (el2).symm (el2).symm (fun k h=>by cases h; exact qan _) (fun h=>nomatch h)) (.cons (.lit _) (.cons (.lit _) .nil))))) ?_;obtain⟨q39,g40,j74⟩:=bind_some j74;try simp only[rnA,Nat.reduceEqDiff,Nat.reduceLT,(zaX g40).1,(zaX g40).2]
   obtain⟨o78,j78,j74⟩:=bind_some j74;obtain⟨T78,hT78⟩:=mkT fun a:Int=>⟨123,[(1,(.ptr 0 0)),(3,(.sl 1 0 1 (Int.toNat (p0.net.nodes.length:Int)) (some (Int.toNat (p0.net.nodes.length:Int))) (Int.toNat (p0.net.nodes.length:Int)))),(4,(.sl 2 0 1 (Int.toNat (p0.net.nodes.length:Int)) (some (Int.toNat (p0.net.nodes.length:Int))) (Int.toNat (p0.net.nodes.length:Int)))),(5,(dU v5')),(10,(dU v5)),(13,(dU a)),(102,(dI (p0.net.nodes.length:Int))),(103,(dI v103))],[.cells [(dI p0.net.grain),(fzE false zab p0.net.nodes),(fzE false (eI .i64) p0.known),(dI p0.node)],.els 1 (l1.map ((eI .u64).c true)),.els 1 (l2.map ((eI .u64).c true))]⟩
   refine EvL.jn T78 (fun a=>a=o78) ?_ ?_
   ·refine zaa ?_;try simp only[rnA,Nat.reduceEqDiff]
    cases c41:((zfz .u64 q39 1)== 1)
    ·rw[c41,cond_false]at j78;try simp only[rnA]
     replace j78:=qae j78; subst j78;exact lfj hT78 rfl (wm0 [.k,.k,.k] ⟨MB.cs ⟨qdn,qdn,qdn,qdn,qdn⟩,⟨MB.es (eI .u64) true l1,⟨MB.es (eI .u64) true l2,qdn⟩⟩⟩)
    rw[c41,cond_true]at j78;obtain⟨q42,g43,j78⟩:=bind_some j78;try simp only[rnA,Nat.reduceEqDiff,Nat.reduceLT,(za6 g43).1,(za6 g43).2]
    replace j78:=qae j78; subst j78;exact lfj hT78 rfl (wm0 [.k,.k,.k] ⟨MB.cs ⟨qdn,qdn,qdn,qdn,qdn⟩,⟨MB.es (eI .u64) true l1,⟨MB.es (eI .u64) true l2,qdn⟩⟩⟩)
   rintro v13' rfl;rw[congrFun hT78 v13'];refine zaa ?_;try simp only[rnA,Nat.reduceEqDiff,Nat.reduceLT]
   exact⟨(v13',(w64 (v103+1))),j74,by rw[hT77]; exact wm0 [.k,.k,.k] ⟨MB.cs ⟨qdn,qdn,qdn,qdn,qdn⟩,⟨MB.es (eI .u64) true l1,⟨MB.es (eI .u64) true l2,qdn⟩⟩⟩⟩
  rintro v13 rfl;rw[congrFun hT74 v13];refine zaa ?_;try simp only[rnA,Nat.reduceEqDiff,Nat.reduceLT]
  replace h:=qae h; subst h;exact zeb.ret rfl (.lit _)
 rw[c35,cond_true]at h;try simp only[rnA,Nat.reduceLT]
 replace h:=qae h; subst h;exact zeb.ret rfl (.lit _)
def zbr(N:Nat)(p0:S_api_Net)(p1:(List Int))(p2:Int):Option (Int×Int):=
(zbW p0 p1 p2).bind fun r1=>
bif (r1.2 == 0)then(
(zaK N r1.1).bind fun r4=>
some (r4,0))
else(
some (0,r1.2))
theorem zfJ{N:Nat}{p0:S_api_Net}{p1:(List Int)}{p2:Int}{r:(Int×Int)}(h:zbr N p0 p1 p2=some r):Lx.Fn mC 22 [(.agg [(dI p0.grain),(fzE false zab p0.nodes)]),(fzE false (eI .i64) p1),(dI p2)] (.tup [(dU r.1),(dI r.2)]):=by
 refine fnO (by conv=>lhs; cbv) ?_;unfold zbr at h;refine zaa ?_;obtain⟨r1,g2,h⟩:=bind_some h;try simp only[rnA,Nat.reduceEqDiff,reduceIte,Nat.reduceLT,Nat.reduceAdd,Nat.reduceLeDiff,Nat.reduceMul,Nat.reduceSub,Int.reduceLE,Int.reduceLT,Int.reduceBEq,Nat.reduceBEq,reduceCtorEq,zak,zaL,zea]
 refine EvL.fnS (zhp g2) rfl rfl (.cons (Mzs.agg (.cons (.lit _) (.cons (zhb _ _ (fun h=>by cases h<;>contradiction)) .nil))) (.cons (zhb _ _ (fun h=>by cases h<;>contradiction)) (.cons (.lit _) .nil))) ⟨⟨qdn,(zcT _ _),qdn⟩,(zcT _ _),qdn,qdn⟩ ⟨⟨qdn,(zcT _ _),(zcT _ _),qdn,qdn⟩,qdn,qdn⟩ ?_;try simp only[rnA,Nat.reduceEqDiff,reduceIte,Nat.reduceLT,Nat.reduceAdd,Nat.reduceLeDiff,Nat.reduceMul,Nat.reduceSub,Int.reduceLE,Int.reduceLT,Int.reduceBEq,Nat.reduceBEq,reduceCtorEq,zak,zaL]
 cases c3:(r1.2 == 0)
 ·rw[c3,cond_false]at h;try simp only[rnA,Nat.reduceEqDiff,reduceIte,Nat.reduceLT,Nat.reduceAdd,Nat.reduceLeDiff,Nat.reduceMul,Nat.reduceSub,Int.reduceLE,Int.reduceLT,Int.reduceBEq,Nat.reduceBEq,reduceCtorEq,zak,zaL,c3]
  replace h:=qae h; subst h;exact zeb.ret rfl (Snp.zlF (.cons (.lit _) (.cons (.lit _) .nil)))
 rw[c3,cond_true]at h;obtain⟨r4,g5,h⟩:=bind_some h;try simp only[rnA,Nat.reduceEqDiff,reduceIte,Nat.reduceLT,Nat.reduceAdd,Nat.reduceLeDiff,Nat.reduceMul,Nat.reduceSub,Int.reduceLE,Int.reduceLT,Int.reduceBEq,Nat.reduceBEq,reduceCtorEq,zak,zaL,c3]
 refine EvL.fn (zd0 g5) rfl rfl (.cons (.zhg (.cons (.lit _) (.cons (zaO _ _ (fun h=>nomatch h)) (.cons (zaO _ _ (fun h=>nomatch h)) (.cons (.lit _) .nil))))) .nil) ?_;try simp only[rnA,Nat.reduceEqDiff,reduceIte,Nat.reduceLT,Nat.reduceAdd,Nat.reduceLeDiff,Nat.reduceMul,Nat.reduceSub,Int.reduceLE,Int.reduceLT,Int.reduceBEq,Nat.reduceBEq,reduceCtorEq,zak,zaL,c3]
 replace h:=qae h; subst h;exact zeb.ret rfl (Snp.zlF (.cons (.lit _) (.cons (.lit _) .nil)))
end Go.Dc
set_option maxRecDepth 100000
set_option maxHeartbeats 4000000
namespace Go.Dc
open Go Go.Mx Go.Lx Go.Proofs
def zaR(r6:(List Int)):Nat→Int→Int→Option Int
 | 0,_,_=>none
 | n+1,v10,v39=>(
bif (decide (v39<(r6.length:Int)))then(
(za3 r6 v39).bind fun x13=>
((bif (decide (0≤x13))then(
(zmB .u64 1 v39).bind fun q16=>
some (orI .u64 v10 q16))
else(
some v10):Option Int)).bind fun v10'=>
zaR r6 n v10' (w64 (v39+1)))
else(
some v10))
def zbM(N:Nat)(p0:S_haruspexref05_Draft)(p1:S_haruspexlaw09_Ask):Option Bool:=
(znv).bind fun r1=>
bif r1 then(
(zbV N p0).bind fun r4=>
(zbw p1.known r4).bind fun r6=>
(zbt p1 (r4.nodes.length:Int)).bind fun r8=>
(zbr N r4 r6 r8).bind fun r10=>
((zaR r6 ((r6.length:Int) - 0+2:Int).toNat 0 0:Option Int)).bind fun v10=>
(zmB .u64 1 r8).bind fun q18=>
(zbF N r4 (orI .u64 v10 q18)).bind fun r20=>
(zbF N r4 q18).bind fun r22=>
((bif (r10.2 == 0)then(
bif (r20.2 == 0)then(
bif (r22.2 == 0)then(
some (!((zub .u64 r10.1 r20.1)== 0)))
else(
some true))
else(
some true))
else(
some true):Option Bool)).bind fun v82=>
bif v82 then(
some false)
else(
(zhP .u64 v10 r8).bind fun q28=>
bif ((zfz .u64 q28 1)== 1)then(
some (r10.1 == 0))
else(
(((zhP .u64 r10.1 r8).bind fun q31=>
bif ((zfz .u64 q31 1)== 1)then(
bif (v10 == 0)then(
some (r10.1 == r22.1))
else(
some true))
else(
some false):Option Bool)).bind fun v4=>
some v4)))
else(
some false)
def zdD:C:=
 .seq (rg [oW 2 0,
 oW 3 1,
 oJ 4 false])
 (.seq (.seq (rg [⟨some 17,.call 10 [],none⟩,
 ⟨some 18,.un .not (.s 17),none⟩])
 (.cond (.s 18) (.seq (rg [oJ 4 false])
 (.ret))
 (.skip)))
 (.seq (rg [oN 19 3 2,
 oU 20 13 19,
 ⟨some 5,.alloc [(.int .i64 0),(.slice none 0 0)],none⟩,
 oS 2 5 20])
 (.seq (.reg true true [oF 21 0 3,
 oN 22 9 21,
 oN 23 2 5,
 oN 25 20 3,
 oF 26 1 5,
 oL 27 26,
 oE 28 27,
 oV 24 25 22 23,
 oV 29 26 25 28,
 oM 6 24,
 oM 7 29])
 (.seq (rg [oN 31 2 5,
 oM 32 6,
 oM 33 7,
 ⟨some 34,.call 22 [(.s 31),(.s 32),(.s 33)],none⟩,
 oM 30 34,
 oX 35 30 0,
 oX 36 30 1,
 oM 8 35,
 oM 9 36])
 (.seq (rg [⟨some 10,.mov (.c (.int .u64 0)),none⟩])
 (.seq (.seq (rg [oM 37 6,
 oE 38 37,
 oK 39 0])
 (.scope (.block 0 (.loop (.seq (rg [oB 40 .lss 39 38])
 (.seq (.cond (.s 40) (.skip)
 (.exit 0))
 (.seq (.block 1 (.seq (rg [oM 41 39,
 oI 42 1 37 39,
 oL 43 42,
 oM 11 41,
 oM 12 43])
 (.seq (rg [oM 44 12,
 oD 45 .geq 44 0])
 (.scope (.cond (.s 45) (rg [oM 46 10,
 oM 47 11,
 ⟨some 48,.bin .shl (.c (.int .u64 1)) (.s 47),none⟩,
 oB 49 .or 46 48,
 oM 10 49])
 (.skip))))))
 (rg [oD 50 .add 39 1,
 oM 39 50]))))))))
 (.seq (.reg true false [oN 52 2 5,
 oM 53 10,
 oM 54 7,
 ⟨some 55,.bin .shl (.c (.int .u64 1)) (.s 54),none⟩,
 oB 56 .or 53 55,
 oV 57 31 52 56,
 oM 51 57,
 oX 58 51 0,
 oX 59 51 1,
 oM 13 58,
 oM 14 59])
 (.seq (.reg true false [oN 61 2 5,
 oM 62 7,
 ⟨some 63,.bin .shl (.c (.int .u64 1)) (.s 62),none⟩,
 oV 64 31 61 63,
 oM 60 64,
 oX 65 60 0,
 oX 66 60 1,
 oM 15 65,
 oM 16 66])
 (.seq (.seq (.scope (rg [oM 67 9,
 oD 68 .neq 67 0,
 oM 69 68,
 oMg 70 14 69 false,
 oDg 71 .neq 70 0 69 false,
 oP 72 69 71,
 oM 73 72,
 oMg 74 16 73 false,
 oDg 75 .neq 74 0 73 false,
 oP 76 73 75,
 oM 77 76,
 oMg 78 8 77 false,
 oMg 79 13 77 false,
 ⟨some 80,.bin .andNot (.s 78) (.s 79),some (77,false)⟩,
 ⟨some 81,.bin .neq (.s 80) (.c (.int .u64 0)),some (77,false)⟩,
 oP 82 77 81]))
 (.cond (.s 82) (.seq (rg [oJ 4 false])
 (.ret))
 (.skip)))
 (.seq (.seq (rg [oM 83 10,
 oM 84 7,
 oB 85 .shr 83 84,
 oDu 86 .and 85 1,
 oDu 87 .eql 86 1])
 (.cond (.s 87) (.seq (rg [oM 88 8,
 oDu 89 .eql 88 0,
 oM 4 89])
 (.ret))
 (.skip)))
 (.seq (.scope (rg [oM 90 8,
 oM 91 7,
 oB 92 .shr 90 91,
 oDu 93 .and 92 1,
 oDu 94 .eql 93 1,
 oM 95 94,
 oMg 96 10 95 true,
 ⟨some 97,.bin .neq (.s 96) (.c (.int .u64 0)),some (95,true)⟩,
 oMg 98 97 95 true,
 oMg 99 8 98 false,
 oMg 100 15 98 false,
 ⟨some 101,.bin .eql (.s 99) (.s 100),some (98,false)⟩,
 ⟨some 102,.pick (.s 98) (.c (.bool true)) (.s 101),some (95,true)⟩,
 ⟨some 103,.pick (.s 95) (.s 102) (.c (.bool false)),none⟩,
 oM 4 103]))
 (.ret))))))))))))
theorem ze6:zl2 mC 8=some (104,zdD,[.tmp 4],false):=zcP (by kernel_rfl)
theorem zfv{N:Nat}{p0:S_haruspexref05_Draft}{p1:S_haruspexlaw09_Ask}{r:Bool}(h:zbM N p0 p1=some r):Lx.Fn mC 8 [(.agg [(dU8 p0.grain),(fzE false zah p0.nodes),(fzE false (eI .u8) p0.order)]),(.agg [(dU8 p1.known.which),(dU8 p1.known.v.a0),(dU8 p1.known.v.a1),(dU8 p1.known.v.a2),(dU8 p1.known.v.a3),(dU8 p1.known.v.a4),(dU8 p1.known.v.a5),(dU8 p1.known.v.a6),(dU8 p1.known.v.a7),(dI p1.v),(dU8 p1.l.a0),(dU8 p1.l.a1),(dU8 p1.l.a2),(dU8 p1.l.a3),(dU8 p1.l.a4),(dU8 p1.l.a5),(dU8 p1.l.a6),(dU8 p1.l.a7),(fzE false (eI .i64) p1.e),(fzE false (eI .i64) p1.order)])] (dB r):=by
 refine Fn.of ze6 (zcj rfl) (qai rfl) ?_;unfold zbM at h;simp only[zdD,zss];refine zaa ?_;obtain⟨r1,g2,h⟩:=bind_some h;try simp only[rnA,Nat.reduceEqDiff,Nat.reduceLT,Nat.reduceAdd,reduceCtorEq]
 refine EvL.fn (ztO g2) rfl rfl .nil ?_;try simp only[rnA,Nat.reduceEqDiff,Nat.reduceLT,reduceCtorEq]
 cases c3:r1
 ·rw[c3,cond_false]at h;try simp only[rnA,Nat.reduceLT]
  replace h:=qae h; subst h;exact zeb.ret rfl (.lit _)
 rw[c3,cond_true]at h;obtain⟨r4,g5,h⟩:=bind_some h;try simp only[rnA,Nat.reduceEqDiff,Nat.reduceLT,Nat.reduceAdd,Nat.reduceLeDiff,reduceCtorEq]
 refine EvL.fn (zhs g5) rfl rfl (.cons (.zhg (.cons (.lit _) (.cons (zaO _ _ (fun h=>nomatch h)) (.cons (zaO _ _ (fun h=>nomatch h)) .nil)))) .nil) ?_;obtain⟨r6,g7,h⟩:=bind_some h;try simp only[rnA,Nat.reduceEqDiff,Nat.reduceLT,Nat.reduceAdd,Nat.reduceLeDiff,reduceCtorEq,zaC]
 refine EvL.fn (zh2 g7) rfl rfl (.cons (.zhg (.cons (.lit _) (.cons (.lit _) (.cons (.lit _) (.cons (.lit _) (.cons (.lit _) (.cons (.lit _) (.cons (.lit _) (.cons (.lit _) (.cons (.lit _) .nil)))))))))) (.cons (.zhg (.cons (.lit _) (.cons (zaO _ _ (fun h=>nomatch h)) .nil))) .nil)) ?_;obtain⟨r8,g9,h⟩:=bind_some h;try simp only[rnA,Nat.reduceLT]
 refine EvL.fn (ziK g9) rfl rfl (.cons (.zhg (.cons (.lit _) (.cons (.lit _) (.cons (.lit _) (.cons (.lit _) (.cons (.lit _) (.cons (.lit _) (.cons (.lit _) (.cons (.lit _) (.cons (.lit _) (.cons (.lit _) (.cons (.lit _) (.cons (.lit _) (.cons (.lit _) (.cons (.lit _) (.cons (.lit _) (.cons (.lit _) (.cons (.lit _) (.cons (.lit _) (.cons (zaO _ _ (fun h=>nomatch h)) (.cons (zaO _ _ (fun h=>nomatch h)) .nil))))))))))))))))))))) (.cons (.lit _) .nil)) ?_;obtain⟨r10,g11,h⟩:=bind_some h;try simp only[rnA,Nat.reduceEqDiff,Nat.reduceLT,Nat.reduceAdd,Nat.reduceLeDiff,reduceCtorEq]
 refine EvL.fn (zfJ g11) rfl rfl (.cons (.zhg (.cons (.lit _) (.cons (zaO _ _ (fun h=>nomatch h)) .nil))) (.cons (zaO _ _ (fun h=>nomatch h)) (.cons (.lit _) .nil))) ?_;try simp only[rnA,Nat.reduceEqDiff,Nat.reduceLT,reduceCtorEq,zaC]
 obtain⟨o4,j4,h⟩:=bind_some h;obtain⟨T4,hT4⟩:=mkT fun a:Int=>⟨104,[(5,(.ptr 2 0)),(7,(dI r8)),(8,(dU r10.1)),(9,(dI r10.2)),(10,(dU a))],[.gone,.gone,.cells [(dI r4.grain),(fzE true zab r4.nodes)]]⟩
 refine EvL.jn T4 (fun a=>a=o4) ?_ ?_
 ·refine zaa ?_;simp only[rnA];obtain⟨T7,hT7⟩:=mkT fun a:(Int×Int)=>⟨104,[(5,(.ptr 2 0)),(7,(dI r8)),(8,(dU r10.1)),(9,(dI r10.2)),(10,(dU a.1)),(37,(fzE true (eI .i64) r6)),(38,(dI (r6.length:Int))),(39,(dI a.2))],[.gone,.gone,.cells [(dI r4.grain),(fzE true zab r4.nodes)]]⟩
  refine EvL.rounds (α:=(Int×Int)) T7 (fun n a=>zaR r6 n a.1 a.2=some o4) ((r6.length:Int) - 0+2:Int).toNat (0,0) (by rw[hT7]; exact wm0 [.d,.d,.k] ⟨rfl,⟨rfl,⟨MB.cs ⟨qdn,qdn,qdn⟩,qdn⟩⟩⟩) j4 (fun _ h=>nomatch (show(none:Option Int)=some o4 from h)) ?_;rintro n ⟨v10,v39⟩ j4;simp only[zaR]at j4;rw[congrFun hT7 (v10,v39)];refine zaa ?_;try simp only[rnA,Nat.reduceEqDiff,Nat.reduceLT]
  cases c12:(decide (v39<(r6.length:Int)))
  ·rw[c12,cond_false]at j4;try simp only[rnA]
   replace j4:=qae j4; subst j4;exact lfj hT4 rfl (wm0 [.d,.d,.k] ⟨rfl,⟨rfl,⟨MB.cs ⟨qdn,qdn,qdn⟩,qdn⟩⟩⟩)
  rw[c12,cond_true]at j4;obtain⟨x13,g14,j4⟩:=bind_some j4;try simp only[rnA,Nat.reduceEqDiff,Nat.reduceLT,zaS (n:=1) (e:=(eI .i64)) rfl g14]
  obtain⟨o8,j8,j4⟩:=bind_some j4;obtain⟨T8,hT8⟩:=mkT fun a:Int=>⟨104,[(5,(.ptr 2 0)),(7,(dI r8)),(8,(dU r10.1)),(9,(dI r10.2)),(10,(dU a)),(37,(fzE true (eI .i64) r6)),(38,(dI (r6.length:Int))),(39,(dI v39))],[.gone,.gone,.cells [(dI r4.grain),(fzE true zab r4.nodes)]]⟩
  refine EvL.jn T8 (fun a=>a=o8) ?_ ?_
  ·refine zaa ?_;try simp only[rnA,Nat.reduceEqDiff]
   cases c15:(decide (0≤x13))
   ·rw[c15,cond_false]at j8;try simp only[rnA]
    replace j8:=qae j8; subst j8;exact lfj hT8 rfl (wm0 [.d,.d,.k] ⟨rfl,⟨rfl,⟨MB.cs ⟨qdn,qdn,qdn⟩,qdn⟩⟩⟩)
   rw[c15,cond_true]at j8;obtain⟨q16,g17,j8⟩:=bind_some j8;try simp only[rnA,Nat.reduceEqDiff,Nat.reduceLT,(za6 g17).1,(za6 g17).2]
   replace j8:=qae j8; subst j8;exact lfj hT8 rfl (wm0 [.d,.d,.k] ⟨rfl,⟨rfl,⟨MB.cs ⟨qdn,qdn,qdn⟩,qdn⟩⟩⟩)
  rintro v10' rfl;rw[congrFun hT8 v10'];refine zaa ?_;try simp only[rnA,Nat.reduceEqDiff,Nat.reduceLT]
  exact⟨(v10',(w64 (v39+1))),j4,by rw[hT7]; exact wm0 [.d,.d,.k] ⟨rfl,⟨rfl,⟨MB.cs ⟨qdn,qdn,qdn⟩,qdn⟩⟩⟩⟩
 rintro v10 rfl;rw[congrFun hT4 v10];refine zaa ?_;obtain⟨q18,g19,h⟩:=bind_some h;obtain⟨r20,g21,h⟩:=bind_some h;try simp only[rnA,Nat.reduceEqDiff,Nat.reduceLT,Nat.reduceAdd,Nat.reduceLeDiff,(za6 g19).1,(za6 g19).2]
 refine EvL.fn (zeA g21) rfl rfl (.cons (.zhg (.cons (.lit _) (.cons (zaO _ _ (fun h=>nomatch h)) .nil))) (.cons (.lit _) .nil)) ?_;obtain⟨r22,g23,h⟩:=bind_some h;try simp only[rnA,Nat.reduceEqDiff,Nat.reduceLT,Nat.reduceAdd,Nat.reduceLeDiff,(za6 g19).1,(za6 g19).2]
 refine EvL.fn (zeA g23) rfl rfl (.cons (.zhg (.cons (.lit _) (.cons (zaO _ _ (fun h=>nomatch h)) .nil))) (.cons (.lit _) .nil)) ?_;try simp only[rnA,Nat.reduceEqDiff,Nat.reduceLT]
 obtain⟨o9,j9,h⟩:=bind_some h;obtain⟨T9,hT9⟩:=mkT fun a:Bool=>⟨104,[(7,(dI r8)),(8,(dU r10.1)),(10,(dU v10)),(15,(dU r22.1)),(82,(dB a))],[]⟩
 refine EvL.jn T9 (fun a=>a=o9) ?_ ?_
 ·refine zaa ?_;try simp only[rnA,Nat.reduceEqDiff,Nat.reduceLT]
  cases c24:(r10.2 == 0)
  ·rw[c24,cond_false]at j9;try simp only[rnA,Nat.reduceEqDiff,Nat.reduceLT]
   replace j9:=qae j9; subst j9;exact lfj hT9 rfl (wm0 [] (by exact trivial))
  rw[c24,cond_true]at j9;try simp only[rnA,Nat.reduceEqDiff,Nat.reduceLT]
  cases c25:(r20.2 == 0)
  ·rw[c25,cond_false]at j9;try simp only[rnA,Nat.reduceEqDiff,Nat.reduceLT]
   replace j9:=qae j9; subst j9;exact lfj hT9 rfl (wm0 [] (by exact trivial))
  rw[c25,cond_true]at j9;try simp only[rnA,Nat.reduceEqDiff,Nat.reduceLT]
  cases c26:(r22.2 == 0)
  ·rw[c26,cond_false]at j9;try simp only[rnA,Nat.reduceEqDiff,Nat.reduceLT]
   replace j9:=qae j9; subst j9;exact lfj hT9 rfl (wm0 [] (by exact trivial))
  rw[c26,cond_true]at j9;try simp only[rnA,Nat.reduceEqDiff,Nat.reduceLT]
  replace j9:=qae j9; subst j9;exact lfj hT9 rfl (wm0 [] (by exact trivial))
 rintro v82 rfl;rw[congrFun hT9 v82];refine zaa ?_;try simp only[rnA,Nat.reduceEqDiff]
 cases c27:v82
 ·rw[c27,cond_false]at h;obtain⟨q28,g29,h⟩:=bind_some h;try simp only[rnA,Nat.reduceEqDiff,Nat.reduceLT,(zaX g29).1,(zaX g29).2]
  cases c30:((zfz .u64 q28 1)== 1)
  ·rw[c30,cond_false]at h;try simp only[rnA]
   obtain⟨o10,j10,h⟩:=bind_some h;obtain⟨T10,hT10⟩:=mkT fun a:Bool=>⟨104,[(4,(dB a))],[]⟩
   refine EvL.jn T10 (fun a=>a=o10) ?_ ?_
   ·refine zaa ?_;obtain⟨q31,g32,j10⟩:=bind_some j10;try simp only[rnA,Nat.reduceEqDiff,Nat.reduceLT,(zaX g32).1,(zaX g32).2]
    cases c33:((zfz .u64 q31 1)== 1)
    ·rw[c33,cond_false]at j10;try simp only[rnA,Nat.reduceEqDiff,Nat.reduceLT]
     replace j10:=qae j10; subst j10;exact lfj hT10 rfl (wm0 [] (by exact trivial))
    rw[c33,cond_true]at j10;try simp only[rnA,Nat.reduceEqDiff,Nat.reduceLT]
    cases c34:(v10 == 0)
    ·rw[c34,cond_false]at j10;try simp only[rnA,Nat.reduceEqDiff,Nat.reduceLT]
     replace j10:=qae j10; subst j10;exact lfj hT10 rfl (wm0 [] (by exact trivial))
    rw[c34,cond_true]at j10;try simp only[rnA,Nat.reduceEqDiff,Nat.reduceLT]
    replace j10:=qae j10; subst j10;exact lfj hT10 rfl (wm0 [] (by exact trivial))
   rintro v4 rfl;rw[congrFun hT10 v4];refine zaa ?_;try simp only[rnA]
   replace h:=qae h; subst h;exact zeb.ret rfl (.lit _)
  rw[c30,cond_true]at h;try simp only[rnA,Nat.reduceEqDiff,Nat.reduceLT]
  replace h:=qae h; subst h;exact zeb.ret rfl (.lit _)
 rw[c27,cond_true]at h;try simp only[rnA,Nat.reduceLT]
 replace h:=qae h; subst h;exact zeb.ret rfl (.lit _)
end Go.Dc
