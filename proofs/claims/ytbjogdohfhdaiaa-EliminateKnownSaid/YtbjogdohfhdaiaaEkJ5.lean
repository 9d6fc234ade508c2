/-
 What l09_Sample computes. Conditions: none.
-/
import Derived.Test.YtbjogdohfhdaiaaEkJ4
set_option linter.unusedSimpArgs false
set_option linter.unusedVariables false
set_option maxRecDepth 100000
set_option maxHeartbeats 4000000
namespace Go.Dc
open Go Go.Mx Go.Lx Go.Proofs
def zdS:Option S_api_Net:=
some (S_api_Net.mk 4 [(S_api_Node.mk 2 [] [[1,3]]),(S_api_Node.mk 2 [0] [[4,0],[2,2]]),(S_api_Node.mk 2 [1] [[1,3],[4,0]])])
theorem zg9{r:S_api_Net}(h:zdS=some r):Lx.Fn mC 41 [] (.agg [(dI r.grain),(fzE true zac r.nodes)]):=by
 refine fnO (by conv=>lhs; cbv) ?_;unfold zdS at h;refine zaa ?_;try simp only[rnA,Nat.reduceEqDiff,reduceIte,Nat.reduceLT,Nat.reduceAdd,Nat.reduceLeDiff,Nat.reduceMul,Nat.reduceSub,Int.reduceLE,Int.reduceLT,Int.reduceBEq,Nat.reduceBEq,reduceCtorEq,zat,zc3]
 replace h:=qaa h; subst h;exact za0.ret rfl (.za8 (.cons (.lit _) (.cons (zct (e:=zac) rfl (.inl rfl) rfl rfl (fun k h=>by cases h; exact qae _) (zba (.cons (.lit _) (.cons (zah (eI .i64)) (.cons (zct (e:=(eL (eI .i64))) rfl (.inl rfl) rfl rfl (fun k h=>by cases h; exact qae _) (zba (.cons (zaj (e:=(eI .i64)) (t:=true) rfl (.inl rfl) rfl rfl (fun k h=>by cases h; exact qae _) (fun _=>rfl)) .nil) .nil)) .nil))) (zba (.cons (.lit _) (.cons (zaj (e:=(eI .i64)) (t:=true) rfl (.inl rfl) rfl rfl (fun k h=>by cases h; exact qae _) (fun _=>rfl)) (.cons (zct (e:=(eL (eI .i64))) rfl (.inl rfl) rfl rfl (fun k h=>by cases h; exact qae _) (zba (.cons (zaj (e:=(eI .i64)) (t:=true) rfl (.inl rfl) rfl rfl (fun k h=>by cases h; exact qae _) (fun _=>rfl)) .nil) (zba (.cons (zaj (e:=(eI .i64)) (t:=true) rfl (.inl rfl) rfl rfl (fun k h=>by cases h; exact qae _) (fun _=>rfl)) .nil) .nil))) .nil))) (zba (.cons (.lit _) (.cons (zaj (e:=(eI .i64)) (t:=true) rfl (.inl rfl) rfl rfl (fun k h=>by cases h; exact qae _) (fun _=>rfl)) (.cons (zct (e:=(eL (eI .i64))) rfl (.inl rfl) rfl rfl (fun k h=>by cases h; exact qae _) (zba (.cons (zaj (e:=(eI .i64)) (t:=true) rfl (.inl rfl) rfl rfl (fun k h=>by cases h; exact qae _) (fun _=>rfl)) .nil) (zba (.cons (zaj (e:=(eI .i64)) (t:=true) rfl (.inl rfl) rfl rfl (fun k h=>by cases h; exact qae _) (fun _=>rfl)) .nil) .nil))) .nil))) .nil)))) .nil)))
def zb6(p0:S_api_Net)(p1:(List Int))(p2:Int):Option (S_eliminate_query×Int):=
(zc0 p0 p1).bind fun r1=>
bif (r1 == 0)then(
((bif (decide (p2<0))then(
some true)
else(
some (decide ((p0.nodes.length:Int)≤p2))):Option Bool)).bind fun v24=>
bif v24 then(
some ((S_eliminate_query.mk (S_api_Net.mk 0 []) [] 0),2))
else(
some ((S_eliminate_query.mk p0 p1 p2),0)))
else(
some ((S_eliminate_query.mk (S_api_Net.mk 0 []) [] 0),r1))
theorem zcZ{p0:S_api_Net}{p1:(List Int)}{p2:Int}{r:(S_eliminate_query×Int)}(h:zb6 p0 p1 p2=some r):Lx.FnA mC 93 [(.agg [(dI p0.grain),(fzE false zac p0.nodes)]),(fzE false (eI .i64) p1),(dI p2)] (.tup [(.agg [(dI r.1.net.grain),(fzE false zac r.1.net.nodes),(fzE false (eI .i64) r.1.known),(dI r.1.node)]),(dI r.2)]):=by
 refine zqN (by conv=>lhs; cbv) ?_;unfold zb6 at h;refine zaa ?_;obtain⟨r1,g2,h⟩:=bind_some h;try simp only[rnA,Nat.reduceEqDiff,Nat.reduceLT,Nat.reduceAdd,Nat.reduceLeDiff,reduceCtorEq]
 refine EvL.fn (zgj g2) rfl rfl (.cons (.za8 (.cons (.lit _) (.cons (zad _ _ (fun h=>nomatch h)) .nil))) (.cons (zad _ _ (fun h=>nomatch h)) .nil)) ?_;try simp only[rnA,Nat.reduceEqDiff,Nat.reduceLT,reduceCtorEq]
 cases c3:(r1 == 0)
 ·rw[c3,cond_false]at h;try simp only[rnA,Nat.reduceEqDiff,Nat.reduceLT,Nat.reduceAdd,Nat.reduceLeDiff,reduceCtorEq]
  replace h:=qaa h; subst h;exact zfD.ret rfl (Snp.zb7 (.cons (.za8 (.cons (.lit _) (.cons (zah zac) (.cons (zah (eI .i64)) (.cons (.lit _) .nil))))) (.cons (.lit _) .nil)))
 rw[c3,cond_true]at h;try simp only[rnA]
 obtain⟨o1,j1,h⟩:=bind_some h;obtain⟨T1,hT1⟩:=mkT fun a:Bool=>⟨30,[(1,(fzE false (eI .i64) p1)),(2,(dI p2)),(3,(.ptr 0 0)),(6,(.ptr 1 0)),(24,(dB a))],[.cells [(dI p0.grain),(fzE false zac p0.nodes)],.cells [(dI 0),zaD,zaD,(dI 0)]]⟩
 refine EvL.jn T1 (fun a=>a=o1) ?_ ?_
 ·refine zaa ?_;try simp only[rnA,Nat.reduceEqDiff,Nat.reduceLT,reduceCtorEq]
  cases c4:(decide (p2<0))
  ·rw[c4,cond_false]at j1;try simp only[rnA,Nat.reduceEqDiff,Nat.reduceLT,reduceCtorEq,zam]
   replace j1:=qaa j1; subst j1;exact lfj hT1 rfl (wm0 [.k,.k] ⟨MB.cs ⟨qb1,qb1,qb1⟩,⟨MB.cs ⟨qb1,qb1,qb1,qb1,qb1⟩,qb1⟩⟩)
  rw[c4,cond_true]at j1;try simp only[rnA,Nat.reduceEqDiff,Nat.reduceLT,reduceCtorEq]
  replace j1:=qaa j1; subst j1;exact lfj hT1 rfl (wm0 [.k,.k] ⟨MB.cs ⟨qb1,qb1,qb1⟩,⟨MB.cs ⟨qb1,qb1,qb1,qb1,qb1⟩,qb1⟩⟩)
 rintro v24 rfl;rw[congrFun hT1 v24];refine zaa ?_;try simp only[rnA,Nat.reduceEqDiff]
 cases c5:v24
 ·rw[c5,cond_false]at h;try simp only[rnA,Nat.reduceEqDiff,Nat.reduceLT,Nat.reduceAdd,Nat.reduceLeDiff]
  replace h:=qaa h; subst h;exact zfD.ret rfl (Snp.zb7 (.cons (.za8 (.cons (.lit _) (.cons (zad _ _ (fun h=>nomatch h)) (.cons (zad _ _ (fun h=>nomatch h)) (.cons (.lit _) .nil))))) (.cons (.lit _) .nil)))
 rw[c5,cond_true]at h;try simp only[rnA,Nat.reduceEqDiff,Nat.reduceLT,Nat.reduceAdd,Nat.reduceLeDiff]
 replace h:=qaa h; subst h;exact zfD.ret rfl (Snp.zb7 (.cons (.za8 (.cons (.lit _) (.cons (zah zac) (.cons (zah (eI .i64)) (.cons (.lit _) .nil))))) (.cons (.lit _) .nil)))
def zbc(p1:(List Int))(p0:S_eliminate_query):Nat→Int→Int→Option (Out Unit Bool)
 | 0,_,_=>none
 | n+1,v5,v21=>(
bif (decide (v21<(p1.length:Int)))then(
(za6 p1 v21).bind fun x5=>
((bif (decide (x5<0))then(
some true)
else(
bif (decide ((p0.net.nodes.length:Int)≤x5))then(
some true)
else(
(zl2 .u64 v5 x5).bind fun q9=>
some ((zi0 .u64 q9 1)== 1))):Option Bool)).bind fun v41=>
bif v41 then(
some (.ret false))
else(
(znt .u64 1 x5).bind fun q12=>
zbc p1 p0 n (orI .u64 v5 q12) (w64 (v21+1))))
else(
some (.go ())))
def zaT(p0:S_eliminate_query)(p1:(List Int)):Option Bool:=
bif ((p1.length:Int)==(w64 ((p0.net.nodes.length:Int) - 1)))then(
(znt .u64 1 p0.node).bind fun q2=>
((zbc p1 p0 ((p1.length:Int) - 0+2:Int).toNat q2 0:Option (Out Unit Bool))).bind fun o=>match o with
| .go _=>(
some true)
| .ret r=>some r)
else(
some false)
theorem zbK{p0:S_eliminate_query}{p1:(List Int)}{r:Bool}(h:zaT p0 p1=some r):Lx.Fn mC 94 [(.agg [(dI p0.net.grain),(fzE false zac p0.net.nodes),(fzE false (eI .i64) p0.known),(dI p0.node)]),(fzE false (eI .i64) p1)] (dB r):=by
 refine fnO (by conv=>lhs; cbv) ?_;unfold zaT at h;refine zaa ?_;try simp only[rnA,Nat.reduceEqDiff,Nat.reduceLT,Nat.reduceAdd,reduceCtorEq,zam]
 cases c1:((p1.length:Int)==(w64 ((p0.net.nodes.length:Int) - 1)))
 ·rw[c1,cond_false]at h;try simp only[rnA,Nat.reduceLT]
  replace h:=qaa h; subst h;exact za0.ret rfl (.lit _)
 rw[c1,cond_true]at h;obtain⟨q2,g3,h⟩:=bind_some h;try simp only[rnA,Nat.reduceEqDiff,Nat.reduceLT,reduceCtorEq,(za5 g3).1,(za5 g3).2,zam]
 obtain⟨o4,j4,h⟩:=bind_some h;obtain⟨T4,hT4⟩:=mkT fun a:Unit=>⟨47,[],[]⟩
 refine EvL.jn T4 (fun a=>o4=.go a) ?_ ?_
 ·refine zaa ?_;simp only[rnA];obtain⟨T7,hT7⟩:=mkT fun a:(Int×Int)=>⟨47,[(2,(.ptr 0 0)),(5,(dU a.1)),(19,(fzE false (eI .i64) p1)),(20,(dI (p1.length:Int))),(21,(dI a.2))],[.cells [(dI p0.net.grain),(fzE false zac p0.net.nodes),(fzE false (eI .i64) p0.known),(dI p0.node)]]⟩
  refine EvL.rounds (α:=(Int×Int)) T7 (fun n a=>zbc p1 p0 n a.1 a.2=some o4) ((p1.length:Int) - 0+2:Int).toNat (q2,0) (by rw[hT7]; exact wm0 [.k] ⟨MB.cs ⟨qb1,qb1,qb1,qb1,qb1⟩,qb1⟩) j4 (fun _ h=>nomatch (show(none:Option (Out Unit Bool))=some o4 from h)) ?_;rintro n ⟨v5,v21⟩ j4;simp only[zbc]at j4;rw[congrFun hT7 (v5,v21)];refine zaa ?_;try simp only[rnA,Nat.reduceEqDiff,Nat.reduceLT]
  cases c4:(decide (v21<(p1.length:Int)))
  ·rw[c4,cond_false]at j4;try simp only[rnA]
   replace j4:=qaa j4; subst j4;exact lfj hT4 rfl (wm0 [] (by exact trivial))
  rw[c4,cond_true]at j4;obtain⟨x5,g6,j4⟩:=bind_some j4;try simp only[rnA,Nat.reduceEqDiff,Nat.reduceLT,zak (n:=1) (e:=(eI .i64)) rfl g6]
  obtain⟨o8,j8,j4⟩:=bind_some j4;obtain⟨T8,hT8⟩:=mkT fun a:Bool=>⟨47,[(2,(.ptr 0 0)),(5,(dU v5)),(7,(dI x5)),(19,(fzE false (eI .i64) p1)),(20,(dI (p1.length:Int))),(21,(dI v21)),(41,(dB a))],[.cells [(dI p0.net.grain),(fzE false zac p0.net.nodes),(fzE false (eI .i64) p0.known),(dI p0.node)]]⟩
  refine EvL.jn T8 (fun a=>a=o8) ?_ ?_
  ·refine zaa ?_;try simp only[rnA,Nat.reduceEqDiff,Nat.reduceLT]
   cases c7:(decide (x5<0))
   ·rw[c7,cond_false]at j8;try simp only[rnA,Nat.reduceEqDiff,Nat.reduceLT,zam]
    cases c8:(decide ((p0.net.nodes.length:Int)≤x5))
    ·rw[c8,cond_false]at j8;obtain⟨q9,g10,j8⟩:=bind_some j8;try simp only[rnA,Nat.reduceEqDiff,Nat.reduceLT,(zaQ g10).1,(zaQ g10).2]
     replace j8:=qaa j8; subst j8;exact lfj hT8 rfl (wm0 [.k] ⟨MB.cs ⟨qb1,qb1,qb1,qb1,qb1⟩,qb1⟩)
    rw[c8,cond_true]at j8;try simp only[rnA,Nat.reduceEqDiff,Nat.reduceLT]
    replace j8:=qaa j8; subst j8;exact lfj hT8 rfl (wm0 [.k] ⟨MB.cs ⟨qb1,qb1,qb1,qb1,qb1⟩,qb1⟩)
   rw[c7,cond_true]at j8;try simp only[rnA,Nat.reduceEqDiff,Nat.reduceLT]
   replace j8:=qaa j8; subst j8;exact lfj hT8 rfl (wm0 [.k] ⟨MB.cs ⟨qb1,qb1,qb1,qb1,qb1⟩,qb1⟩)
  rintro v41 rfl;rw[congrFun hT8 v41];refine zaa ?_;try simp only[rnA,Nat.reduceEqDiff]
  cases c11:v41
  ·rw[c11,cond_false]at j4;obtain⟨q12,g13,j4⟩:=bind_some j4;try simp only[rnA,Nat.reduceEqDiff,Nat.reduceLT,(za5 g13).1,(za5 g13).2]
   exact⟨((orI .u64 v5 q12),(w64 (v21+1))),j4,by rw[hT7]; exact wm0 [.k] ⟨MB.cs ⟨qb1,qb1,qb1,qb1,qb1⟩,qb1⟩⟩
  rw[c11,cond_true]at j4;try simp only[rnA,Nat.reduceLT]
  replace j4:=qaa j4; subst j4;dsimp only at h;replace h:=qaa h; subst h;exact za0.ret rfl (.lit _)
 rintro⟨⟩ rfl;dsimp only at h;rw[congrFun hT4 ()];refine zaa ?_;try simp only[rnA,Nat.reduceLT]
 replace h:=qaa h; subst h;exact za0.ret rfl (.lit _)
def zeI(p0:S_api_Factor):Option (Int×Int):=
(zcc p0).bind fun r1=>
bif (r1.2 == 0)then(
(zby r1.1 []).bind fun r4=>
bif (r4.2 == 0)then(
(za6 r4.1.w 0).bind fun x7=>
some (x7,0))
else(
some (0,r4.2)))
else(
some (0,r1.2))
theorem zib{p0:S_api_Factor}{r:(Int×Int)}(h:zeI p0=some r):Lx.Fn mC 28 [(.agg [(fzE false (eI .i64) p0.vars),(fzE false (eI .i64) p0.cards),(fzE false (eI .i64) p0.w)])] (.tup [(dI r.1),(dI r.2)]):=by
 refine fnO (by conv=>lhs; cbv) ?_;unfold zeI at h;refine zaa ?_;obtain⟨r1,g2,h⟩:=bind_some h;try simp only[rnA,Nat.reduceEqDiff,reduceIte,Nat.reduceLT,Nat.reduceAdd,Nat.reduceLeDiff,Nat.reduceMul,Nat.reduceSub,Int.reduceLE,Int.reduceLT,Int.reduceBEq,Nat.reduceBEq,reduceCtorEq,zar,zcP]
 refine EvL.fnS (zcW g2) rfl rfl (.cons (Mzs.agg (.cons (zal _ _ (fun h=>by cases h<;>contradiction)) (.cons (zal _ _ (fun h=>by cases h<;>contradiction)) (.cons (zal _ _ (fun h=>by cases h<;>contradiction)) .nil)))) .nil) ⟨⟨(zae _ _),(zae _ _),(zae _ _),qb1⟩,qb1⟩ ⟨⟨(zae _ _),(zae _ _),(zae _ _),(zae _ _),qb1⟩,qb1,qb1⟩ ?_;try simp only[rnA,Nat.reduceEqDiff,reduceIte,Nat.reduceLT,Nat.reduceAdd,Nat.reduceLeDiff,Nat.reduceMul,Nat.reduceSub,Int.reduceLE,Int.reduceLT,Int.reduceBEq,Nat.reduceBEq,reduceCtorEq,zar]
 cases c3:(r1.2 == 0)
 ·rw[c3,cond_false]at h;try simp only[rnA,Nat.reduceEqDiff,reduceIte,Nat.reduceLT,Nat.reduceAdd,Nat.reduceLeDiff,Nat.reduceMul,Nat.reduceSub,Int.reduceLE,Int.reduceLT,Int.reduceBEq,Nat.reduceBEq,reduceCtorEq,zar,c3]
  replace h:=qaa h; subst h;exact za0.ret rfl (Snp.zb7 (.cons (.lit _) (.cons (.lit _) .nil)))
 rw[c3,cond_true]at h;obtain⟨r4,g5,h⟩:=bind_some h;try simp only[rnA,Nat.reduceEqDiff,reduceIte,Nat.reduceLT,Nat.reduceAdd,Nat.reduceLeDiff,Nat.reduceMul,Nat.reduceSub,Int.reduceLE,Int.reduceLT,Int.reduceBEq,Nat.reduceBEq,reduceCtorEq,zar,c3]
 refine EvL.fnS (zcT g5) rfl rfl (.cons (Mzs.agg (.cons (zal _ _ (fun h=>by cases h<;>contradiction)) (.cons (zal _ _ (fun h=>by cases h<;>contradiction)) (.cons (zal _ _ (fun h=>by cases h<;>contradiction)) (.cons (zal _ _ (fun h=>by cases h<;>contradiction)) .nil))))) (.cons (zkS (eI .i64)) (.cons (Mzs.agg (.cons zmf .nil)) .nil))) ⟨⟨(zae _ _),(zae _ _),(zae _ _),(zae _ _),qb1⟩,(zae _ _),⟨⟨qb1,qb1⟩,qb1⟩,qb1⟩ ⟨⟨(zae _ _),(zae _ _),(zae _ _),qb1⟩,qb1,qb1⟩ ?_;try simp only[rnA,Nat.reduceEqDiff,reduceIte,Nat.reduceLT,Nat.reduceAdd,Nat.reduceLeDiff,Nat.reduceMul,Nat.reduceSub,Int.reduceLE,Int.reduceLT,Int.reduceBEq,Nat.reduceBEq,reduceCtorEq,zar,c3]
 cases c6:(r4.2 == 0)
 ·rw[c6,cond_false]at h;try simp only[rnA,Nat.reduceEqDiff,reduceIte,Nat.reduceLT,Nat.reduceAdd,Nat.reduceLeDiff,Nat.reduceMul,Nat.reduceSub,Int.reduceLE,Int.reduceLT,Int.reduceBEq,Nat.reduceBEq,reduceCtorEq,zar,c3,c6]
  replace h:=qaa h; subst h;exact za0.ret rfl (Snp.zb7 (.cons (.lit _) (.cons (.lit _) .nil)))
 rw[c6,cond_true]at h;obtain⟨x7,g8,h⟩:=bind_some h;try simp only[rnA,Nat.reduceEqDiff,reduceIte,Nat.reduceLT,Nat.reduceAdd,Nat.reduceLeDiff,Nat.reduceMul,Nat.reduceSub,Int.reduceLE,Int.reduceLT,Int.reduceBEq,Nat.reduceBEq,reduceCtorEq,zar,zak (n:=1) (e:=(eI .i64)) rfl g8,c3,c6]
 replace h:=qaa h; subst h;exact za0.ret rfl (Snp.zb7 (.cons (.lit _) (.cons (.lit _) .nil)))
def zbR(y7:(List Int))(p0:S_net_network)(r3:(Int×Bool)):Nat→Int→Int→(List Int)→Option (Int×(List Int))
 | 0,_,_,_=>none
 | n+1,v40,b6_0,l7=>(
bif (decide (v40<((y7.length:Nat):Int)))then(
(za6 y7 v40).bind fun x10=>
(za6 p0.cards x10).bind fun x12=>
(ze9 8 l7 [x12]).bind fun y14=>
((bif (decide (r3.1<v40))then(
some (w64 (b6_0 * x12)))
else(
some b6_0):Option Int)).bind fun b6_0'=>
zbR y7 p0 r3 n (w64 (v40+1)) b6_0' y14)
else(
some (b6_0,l7)))
def zbT(y23:(Int×(List Int)))(b6_0:Int)(x1:S_api_Node):Nat→Int→(List Int)→Option (List Int)
 | 0,_,_=>none
 | n+1,v80,l8'=>(
bif (decide (v80<(y23.2.length:Int)))then(
(za6 y23.2 v80).bind fun x25=>
(zi1 .i64 y23.1 b6_0).bind fun q27=>
(zrU y23.1 b6_0).bind fun q29=>
(za6 l8' (w64 ((w64 ((w64 ((w64 (q27 * x1.card))+v80))* b6_0))+q29))).bind fun x31=>
(zgN l8' (w64 ((w64 ((w64 ((w64 (q27 * x1.card))+v80))* b6_0))+q29)) x25).bind fun y33=>
zbT y23 b6_0 x1 n (w64 (v80+1)) y33)
else(
some l8'))
def zbv(b6_0:Int)(x1:S_api_Node):List (Int×(List Int))→(List Int)→Option (List Int)
 | [],l8=>some l8
 | y23 :: ys,l8=>(
((zbT y23 b6_0 x1 ((y23.2.length:Int) - 0+2:Int).toNat 0 l8:Option (List Int))).bind fun l8'=>
zbv b6_0 x1 ys l8')
def zcI(p0:S_net_network)(p1:Int):Option S_api_Factor:=
(za6 p0.net.nodes p1).bind fun x1=>
(zbz x1.parents p1).bind fun r3=>
(zeY 8 x1.parents).bind fun y5=>
(zsN 8 y5 r3.1 [p1]).bind fun y7=>
((zbR y7 p0 r3 (((y7.length:Nat):Int) - 0+2:Int).toNat 0 1 []:Option ((Int×(List Int))))).bind fun o=>match o with
|(b6_0,l7)=>(
(zeO 8 (w64 ((x1.rows.length:Int)* x1.card)) 0).bind fun y17=>
(zhj x1).bind fun r19=>
(ziE r19.rows).bind fun u21=>
((zbv b6_0 x1 (zqa r19.rows) y17:Option (List Int))).bind fun l8=>
some (S_api_Factor.mk y7 l7 l8))
def zdZ:C:=
 .seq (rg [oW 2 0,
 ⟨some 4,.alloc [(.slice none 0 0),(.slice none 0 0),(.slice none 0 0)],none⟩])
 (.seq (rg [oF 16 0 2,
 oF 17 1 16,
 oL 18 17,
 oM 19 1,
 oI 20 3 18 19,
 oN 21 3 20,
 ⟨some 5,.alloc [(.int .i64 0),(.slice none 0 0),(.slice none 0 0)],none⟩,
 oS 3 5 21])
 (.seq (rg [oF 23 1 5,
 oL 24 23,
 oM 25 1,
 oV 26 164 24 25,
 oM 22 26,
 oX 27 22 0,
 oX 28 22 1,
 oM 6 27,
 oM 7 28])
 (.seq (rg [oF 29 1 5,
 oL 30 29,
 oU 31 25 30,
 oM 32 6,
 oM 33 1,
 ⟨some 34,.bsl 1 1 [(.int .i64 0)] [(0,(.s 33))],none⟩,
 ⟨some 35,.call 165 [(.s 31),(.s 32),(.s 34)],none⟩,
 ⟨some 36,.build [(.slice none 0 0),(.slice none 0 0),(.slice none 0 0)] [(0,1,(.s 35))],none⟩,
 ⟨some 8,.alloc [(.slice none 0 0),(.slice none 0 0),(.slice none 0 0)],none⟩,
 oS 3 8 36])
 (.seq (rg [⟨some 9,.alloc [(.int .i64 0)],none⟩,
 ⟨none,.store 1 (.s 9) (.c (.int .i64 1)),none⟩])
 (.seq (.seq (rg [oF 37 0 8,
 oL 38 37,
 oE 39 38,
 oK 40 0])
 (.scope (.block 0 (.loop (.seq (rg [oB 41 .lss 40 39])
 (.seq (.cond (.s 41) (.skip)
 (.exit 0))
 (.seq (.block 1 (.seq (rg [oM 42 40,
 oI 43 1 38 40,
 oL 44 43,
 oM 10 42,
 oM 11 44])
 (.seq (.reg true false [oF 45 1 8,
 oL 46 45,
 oF 47 2 2,
 oL 48 47,
 oM 49 11,
 oI 50 1 48 49,
 oL 51 50,
 ⟨some 52,.bsl 1 1 [(.int .i64 0)] [(0,(.s 51))],none⟩,
 oT 53 1 8 46 52,
 oF 54 1 8,
 oS 1 54 53])
 (.seq (rg [oM 55 10,
 oM 56 6,
 oB 57 .gtr 55 56])
 (.scope (.cond (.s 57) (.reg true false [oL 58 9,
 oF 59 2 2,
 oL 60 59,
 oM 61 11,
 oI 62 1 60 61,
 oL 63 62,
 oB 64 .mul 58 63,
 oS 1 9 64])
 (.skip)))))))
 (rg [oD 65 .add 40 1,
 oM 40 65]))))))))
 (.seq (rg [oF 66 2 5,
 oL 67 66,
 oE 68 67,
 oF 69 0 5,
 oL 70 69,
 oB 71 .mul 68 70,
 ⟨some 72,.mk 1 8 [(.int .i64 0)] (.s 71) (.s 71),none⟩,
 oF 73 2 8,
 oS 1 73 72])
 (.seq (.seq (rg [oN 74 3 5,
 oU 75 150 74])
 (.block 2 (.zem (.s 75) [76,77] (.seq (rg [oM 12 76])
 (rg [oM 13 77]))
 (.block 3 (.seq (rg [oM 78 13,
 oE 79 78,
 oK 80 0])
 (.block 4 (.loop (.seq (rg [oB 81 .lss 80 79])
 (.seq (.cond (.s 81) (.skip)
 (.exit 4))
 (.seq (.block 5 (.seq (rg [oM 82 80,
 oI 83 1 78 80,
 oL 84 83,
 oM 14 82,
 oM 15 84])
 (.reg true false [oF 85 2 8,
 oL 86 85,
 oM 87 12,
 oL 88 9,
 oB 89 .quo 87 88,
 oF 90 0 5,
 oL 91 90,
 oB 92 .mul 89 91,
 oM 93 14,
 oB 94 .add 92 93,
 oL 95 9,
 oB 96 .mul 94 95,
 oM 97 12,
 oL 98 9,
 oB 99 .rem 97 98,
 oB 100 .add 96 99,
 oM 101 15,
 oI 102 1 86 100,
 oS 1 102 101])))
 (rg [oD 103 .add 80 1,
 oM 80 103])))))))))))
 (.seq (rg [oN 104 3 8,
 oS 3 4 104])
 (.ret)))))))))
theorem zfz:zhM mC 144=some (105,zdZ,[.cell 4 (some 3)],false):=zbs (by kernel_rfl)
theorem zfK{p0:S_net_network}{p1:Int}{r:S_api_Factor}(h:zcI p0 p1=some r):Lx.Fn mC 144 [(.agg [(dI p0.net.grain),(fzE false zac p0.net.nodes),(fzE false (eI .i64) p0.cards),(fzE false (eI .u64) p0.sets),(fzE false (eI .i64) p0.order)]),(dI p1)] (.agg [(fzE true (eI .i64) r.vars),(fzE true (eI .i64) r.cards),(fzE true (eI .i64) r.w)]):=by
 refine Fn.of zfz (zaZ rfl) (qac rfl) ?_;unfold zcI at h;simp only[zdZ,zlX];refine zaa ?_;obtain⟨x1,g2,h⟩:=bind_some h;obtain⟨r3,g4,h⟩:=bind_some h;try simp only[rnA,Nat.reduceEqDiff,Nat.reduceLT,Nat.reduceAdd,Nat.reduceLeDiff,reduceCtorEq,zat,zak (n:=3) (e:=zac) rfl g2]
 refine EvL.fn (zdT g4) rfl rfl (.cons (zad _ _ (fun h=>nomatch h)) (.cons (.lit _) .nil)) ?_;obtain⟨y5,g6,h⟩:=bind_some h;try simp only[rnA,Nat.reduceEqDiff,Nat.reduceLT,reduceCtorEq]
 refine EvL.clone (t:=false) (zs:=x1.parents) g6 rfl rfl ?_;obtain⟨y7,g8,h⟩:=bind_some h;try simp only[rnA,Nat.reduceEqDiff,Nat.reduceLT,Nat.reduceAdd,reduceCtorEq]
 refine EvL.insert (zs:=y5) (t:=true) (us:=[p1]) (t2:=true) g8 rfl rfl rfl rfl rfl rfl rfl rfl rfl ?_;try simp only[rnA,Nat.reduceEqDiff,Nat.reduceLT,Nat.reduceAdd,Nat.reduceLeDiff,reduceCtorEq]
 obtain⟨o5,j5,h⟩:=bind_some h;obtain⟨T5,hT5⟩:=mkT fun a:(Int×(List Int))=>⟨105,[(4,(.ptr 1 0)),(5,(.ptr 2 0)),(8,(.ptr 5 0)),(9,(.ptr 6 0))],[.gone,.cells [zaD,zaD,zaD],.cells [(dI x1.card),(fzE false (eI .i64) x1.parents),(fzE false (eL (eI .i64)) x1.rows)],.els 1 (y7.map ((eI .i64).c true)),.gone,.cells [(.sl 3 0 1 y7.length none y7.length),(.sl 7 0 1 a.2.length none a.2.length),zaD],.cells [(dI a.1)],.grow 1 (a.2.map ((eI .i64).c true))]⟩
 refine EvL.jn T5 (fun a=>a=o5) ?_ ?_
 ·refine zaa ?_;simp only[rnA];obtain⟨T9,hT9⟩:=mkT fun a:(Int×Int×(List Int))=>⟨105,[(2,(.ptr 0 0)),(4,(.ptr 1 0)),(5,(.ptr 2 0)),(6,(dI r3.1)),(8,(.ptr 5 0)),(9,(.ptr 6 0)),(38,(.sl 3 0 1 y7.length none y7.length)),(39,(dI ((y7.length:Nat):Int))),(40,(dI a.1))],[.cells [(dI p0.net.grain),(fzE false zac p0.net.nodes),(fzE false (eI .i64) p0.cards),(fzE false (eI .u64) p0.sets),(fzE false (eI .i64) p0.order)],.cells [zaD,zaD,zaD],.cells [(dI x1.card),(fzE false (eI .i64) x1.parents),(fzE false (eL (eI .i64)) x1.rows)],.els 1 (y7.map ((eI .i64).c true)),.gone,.cells [(.sl 3 0 1 y7.length none y7.length),(.sl 7 0 1 a.2.2.length none a.2.2.length),zaD],.cells [(dI a.2.1)],.grow 1 (a.2.2.map ((eI .i64).c true))]⟩
  refine EvL.zeH (zaV.zqO (n:=1) (β:=5) (o:=1) (by decide) rfl rfl) ?_;refine EvL.rounds (α:=(Int×Int×(List Int))) T9 (fun n a=>zbR y7 p0 r3 n a.1 a.2.1 a.2.2=some o5) (((y7.length:Nat):Int) - 0+2:Int).toNat (0,1,[]) (by rw[hT9]; exact wm0 [.k,.k,.k,.k,.d,.k,.k,.k] ⟨MB.cs ⟨qb1,qb1,qb1,qb1,qb1,qb1⟩,⟨MB.cs ⟨qb1,qb1,qb1,qb1⟩,⟨MB.cs ⟨qb1,qb1,qb1,qb1⟩,⟨MB.es (eI .i64) true y7,⟨rfl,⟨MB.cs ⟨rfl,rfl,qb1,qb1⟩,⟨MB.cs ⟨qb1,qb1⟩,⟨MB.gs (eI .i64) true [],qb1⟩⟩⟩⟩⟩⟩⟩⟩) j5 (fun _ h=>nomatch (show(none:Option (Int×(List Int)))=some o5 from h)) ?_;rintro n ⟨v40,b6_0,l7⟩ j5;simp only[zbR]at j5;rw[congrFun hT9 (v40,b6_0,l7)];refine zaa ?_;try simp only[rnA,Nat.reduceEqDiff,Nat.reduceLT]
  cases c9:(decide (v40<((y7.length:Nat):Int)))
  ·rw[c9,cond_false]at j5;try simp only[rnA]
   replace j5:=qaa j5; subst j5;exact lfj hT5 rfl (wm0 [.d,.k,.k,.k,.d,.k,.k,.k] ⟨rfl,⟨MB.cs ⟨qb1,qb1,qb1,qb1⟩,⟨MB.cs ⟨qb1,qb1,qb1,qb1⟩,⟨MB.es (eI .i64) true y7,⟨rfl,⟨MB.cs ⟨rfl,rfl,qb1,qb1⟩,⟨MB.cs ⟨qb1,qb1⟩,⟨MB.gs (eI .i64) true l7,qb1⟩⟩⟩⟩⟩⟩⟩⟩)
  rw[c9,cond_true]at j5;obtain⟨x10,g11,j5⟩:=bind_some j5;obtain⟨x12,g13,j5⟩:=bind_some j5;obtain⟨y14,g15,j5⟩:=bind_some j5;try simp only[rnA,Nat.reduceEqDiff,Nat.reduceLT,Nat.reduceAdd,Nat.reduceLeDiff,za3 g11,(show v40<((y7.length:Nat):Int)from zaY g11),zaB g11 ((eI .i64).c true),zak (n:=1) (e:=(eI .i64)) rfl g13,zcE g15,(show l7.length+1=y14.length from zbC g15),(show l7.map ((eI .i64).c true)++ [[(dI x12)]]=y14.map ((eI .i64).c true)from zcm g15 ((eI .i64).c true))]
  obtain⟨o10,j10,j5⟩:=bind_some j5;obtain⟨T10,hT10⟩:=mkT fun a:Int=>⟨105,[(2,(.ptr 0 0)),(4,(.ptr 1 0)),(5,(.ptr 2 0)),(6,(dI r3.1)),(8,(.ptr 5 0)),(9,(.ptr 6 0)),(38,(.sl 3 0 1 y7.length none y7.length)),(39,(dI ((y7.length:Nat):Int))),(40,(dI v40))],[.cells [(dI p0.net.grain),(fzE false zac p0.net.nodes),(fzE false (eI .i64) p0.cards),(fzE false (eI .u64) p0.sets),(fzE false (eI .i64) p0.order)],.cells [zaD,zaD,zaD],.cells [(dI x1.card),(fzE false (eI .i64) x1.parents),(fzE false (eL (eI .i64)) x1.rows)],.els 1 (y7.map ((eI .i64).c true)),.gone,.cells [(.sl 3 0 1 y7.length none y7.length),(.sl 7 0 1 y14.length none y14.length),zaD],.cells [(dI a)],.grow 1 (y14.map ((eI .i64).c true))]⟩
  refine EvL.jn T10 (fun a=>a=o10) ?_ ?_
  ·refine zaa ?_;try simp only[rnA,Nat.reduceEqDiff]
   cases c16:(decide (r3.1<v40))
   ·rw[c16,cond_false]at j10;try simp only[rnA]
    replace j10:=qaa j10; subst j10;exact lfj hT10 rfl (wm0 [.k,.k,.k,.k,.d,.k,.k,.k] ⟨MB.cs ⟨qb1,qb1,qb1,qb1,qb1,qb1⟩,⟨MB.cs ⟨qb1,qb1,qb1,qb1⟩,⟨MB.cs ⟨qb1,qb1,qb1,qb1⟩,⟨MB.es (eI .i64) true y7,⟨rfl,⟨MB.cs ⟨rfl,rfl,qb1,qb1⟩,⟨MB.cs ⟨qb1,qb1⟩,⟨MB.gs (eI .i64) true y14,qb1⟩⟩⟩⟩⟩⟩⟩⟩)
   rw[c16,cond_true]at j10;try simp only[rnA,Nat.reduceEqDiff,Nat.reduceLT,Nat.reduceLeDiff,zak (n:=1) (e:=(eI .i64)) rfl g13]
   replace j10:=qaa j10; subst j10;exact lfj hT10 rfl (wm0 [.k,.k,.k,.k,.d,.k,.k,.k] ⟨MB.cs ⟨qb1,qb1,qb1,qb1,qb1,qb1⟩,⟨MB.cs ⟨qb1,qb1,qb1,qb1⟩,⟨MB.cs ⟨qb1,qb1,qb1,qb1⟩,⟨MB.es (eI .i64) true y7,⟨rfl,⟨MB.cs ⟨rfl,rfl,qb1,qb1⟩,⟨MB.cs ⟨qb1,qb1⟩,⟨MB.gs (eI .i64) true y14,qb1⟩⟩⟩⟩⟩⟩⟩⟩)
  rintro b6_0' rfl;rw[congrFun hT10 b6_0'];refine zaa ?_;try simp only[rnA,Nat.reduceEqDiff,Nat.reduceLT]
  exact⟨((w64 (v40+1)),b6_0',y14),j5,by rw[hT9]; exact wm0 [.k,.k,.k,.k,.d,.k,.k,.k] ⟨MB.cs ⟨qb1,qb1,qb1,qb1,qb1,qb1⟩,⟨MB.cs ⟨qb1,qb1,qb1,qb1⟩,⟨MB.cs ⟨qb1,qb1,qb1,qb1⟩,⟨MB.es (eI .i64) true y7,⟨rfl,⟨MB.cs ⟨rfl,rfl,qb1,qb1⟩,⟨MB.cs ⟨qb1,qb1⟩,⟨MB.gs (eI .i64) true y14,qb1⟩⟩⟩⟩⟩⟩⟩⟩⟩
 rintro⟨b6_0,l7⟩ rfl;dsimp only at h;rw[congrFun hT5 (b6_0,l7)];refine zaa ?_;obtain⟨y17,g18,h⟩:=bind_some h;obtain⟨r19,g20,h⟩:=bind_some h;try simp only[rnA,Nat.reduceEqDiff,Nat.reduceLT,Nat.reduceAdd,Nat.reduceLeDiff,zam,(zau g18).1.1,(zau g18).1.2,qa1,(show List.replicate (Int.toNat (w64 ((x1.rows.length:Int)* x1.card))) [(dI 0)]=y17.map ((eI .i64).c true)from zbD g18 ((eI .i64).c true))]
 refine EvL.fnS (zig g20) rfl rfl (.cons (Mzs.agg (.cons (.lit _) (.cons (zal _ _ (fun h=>by cases h<;>contradiction)) (.cons (zal _ _ (fun h=>by cases h<;>contradiction)) .nil)))) .nil) ⟨⟨qb1,(zae _ _),(zae _ _),qb1⟩,qb1⟩ ⟨qb1,⟨⟨rfl,zac.fr _⟩,qb1⟩⟩ ?_;try simp only[rnA,Nat.reduceLT,zat]
 obtain⟨u21,g22,h⟩:=bind_some h;obtain⟨o15,j15,h⟩:=bind_some h;obtain⟨T15,hT15⟩:∃ T:(List Int)→List LB,T=(fun a=>[.gone,.cells [zaD,zaD,zaD],.cells [(dI x1.card),(fzE false (eI .i64) x1.parents),(fzE false (eL (eI .i64)) x1.rows)],.els 1 (y7.map ((eI .i64).c true)),.gone,.cells [(.sl 3 0 1 y7.length none y7.length),(.sl 7 0 1 l7.length none l7.length),(.sl 8 0 1 (Int.toNat (w64 ((x1.rows.length:Int)* x1.card))) (some (Int.toNat (w64 ((x1.rows.length:Int)* x1.card)))) (Int.toNat (w64 ((x1.rows.length:Int)* x1.card))))],.cells [(dI b6_0)],.grow 1 (l7.map ((eI .i64).c true)),.els 1 (a.map ((eI .i64).c true))]):=⟨_,rfl⟩;refine EvL.zeH (S':=⟨105,[(4,(.ptr 1 0)),(5,(.ptr 2 0)),(8,(.ptr 5 0)),(9,(.ptr 6 0)),(75,(.clo 169 [] [(.fptr false (zac.c false r19))]))],T15 y17⟩) (by rw[hT15]; exact wm0 [.k,.k,.k,.k,.k,.k,.k,.k,.k] ⟨MB.same trivial,⟨MB.cs ⟨qb1,qb1,qb1,qb1⟩,⟨MB.cs ⟨qb1,qb1,qb1,qb1⟩,⟨MB.es (eI .i64) true y7,⟨MB.same trivial,⟨MB.cs ⟨rfl,rfl,rfl,qb1⟩,⟨MB.cs ⟨qb1,qb1⟩,⟨MB.gs (eI .i64) true l7,⟨MB.es (eI .i64) true y17,qb1⟩⟩⟩⟩⟩⟩⟩⟩⟩) ?_;refine EvL.ziJ (n0:=9) (zhy r19 g22) rfl (bm:=.block 3 (.seq (.reg false false [⟨some 78,.mov (.s 13),none⟩,⟨some 79,.len (.s 78),none⟩,⟨some 80,.mov (.c (.int .i64 0)),none⟩]) (.scope (.block 4 (.loop (.seq (.reg false false [⟨some 81,.bin .lss (.s 80) (.s 79),none⟩]) (.seq (.cond (.s 81) (.skip) (.exit 4)) (.seq (.block 5 (.seq (.reg false false [⟨some 82,.mov (.s 80),none⟩,⟨some 83,.idxS 1 (.s 78) (.s 80),none⟩,⟨some 84,.load none (.s 83),none⟩,⟨some 14,.mov (.s 82),none⟩,⟨some 15,.mov (.s 84),none⟩]) (.reg true false [⟨some 85,.fld 2 (.s 8),none⟩,⟨some 86,.load none (.s 85),none⟩,⟨some 87,.mov (.s 12),none⟩,⟨some 88,.load none (.s 9),none⟩,⟨some 89,.bin .quo (.s 87) (.s 88),none⟩,⟨some 90,.fld 0 (.s 5),none⟩,⟨some 91,.load none (.s 90),none⟩,⟨some 92,.bin .mul (.s 89) (.s 91),none⟩,⟨some 93,.mov (.s 14),none⟩,⟨some 94,.bin .add (.s 92) (.s 93),none⟩,⟨some 95,.load none (.s 9),none⟩,⟨some 96,.bin .mul (.s 94) (.s 95),none⟩,⟨some 97,.mov (.s 12),none⟩,⟨some 98,.load none (.s 9),none⟩,⟨some 99,.bin .rem (.s 97) (.s 98),none⟩,⟨some 100,.bin .add (.s 96) (.s 99),none⟩,⟨some 101,.mov (.s 15),none⟩,⟨some 102,.idxS 1 (.s 86) (.s 100),none⟩,⟨none,.store 1 (.s 102) (.s 101),none⟩]))) (.reg false false [⟨some 103,.bin .add (.s 80) (.c (.int .i64 1)),none⟩,⟨some 80,.mov (.s 103),none⟩]))))))))) rfl T15 (fun i a=>zbv b6_0 x1 ((zqa r19.rows).drop i) a=some o15∧a.length=(Int.toNat (w64 ((x1.rows.length:Int)* x1.card)))) (fun x L1=>match x with | .normal=>∃ a,o15=a∧a.length=(Int.toNat (w64 ((x1.rows.length:Int)* x1.card)))∧L1=T15 a | .ret=>L1.length=9∧zcH (9+1) L1∧(za0 [.cell 4 (some 3)] ((.agg [(fzE true (eI .i64) r.vars),(fzE true (eI .i64) r.cards),(fzE true (eI .i64) r.w)]))) .ret ⟨105,[(4,(.ptr 1 0)),(5,(.ptr 2 0)),(8,(.ptr 5 0)),(9,(.ptr 6 0)),(75,(.clo 169 [] [(.fptr false (zac.c false r19))]))],L1 ++ [.lost]⟩| _=>False) y17 ?_ (qbn _) ?_ ?_ ?_ (fun d L1 hx=>hx.elim) ?_ ?_ ?_ ?_ ?_ ?_
 ·intro a; rw[hT15]; rfl
 ·exact⟨(qac rfl),(qac rfl),(qac rfl),(qac rfl),⟨qb1,⟨qb1,qb1⟩⟩,qb1⟩
 ·intro a; rw[hT15]; exact⟨qb1,⟨qb1,qb1,qb1,qb1⟩,⟨qb1,qb1,qb1,qb1⟩,(zdg (eI .i64) _ _ _),qb1,⟨(qac rfl),(qac rfl),(qac rfl),qb1⟩,⟨qb1,qb1⟩,(zdg (eI .i64) _ _ _),(zdg (eI .i64) _ _ _),qb1⟩
 ·intro x L1 hx;cases x with
  | normal=>obtain⟨a,_,_,rfl⟩:=hx; exact⟨by rw[hT15]; rfl,by rw[hT15]; exact⟨qb1,⟨qb1,qb1,qb1,qb1⟩,⟨qb1,qb1,qb1,qb1⟩,(zdg (eI .i64) _ _ _),qb1,⟨(qac rfl),(qac rfl),(qac rfl),qb1⟩,⟨qb1,qb1⟩,(zdg (eI .i64) _ _ _),(zdg (eI .i64) _ _ _),qb1⟩⟩
  | ret=>exact⟨hx.1,hx.2.1⟩
  | exit id=>exact hx.elim
  | panic d=>exact hx.elim
 ·exact⟨j15,zaN g18⟩
 ·rintro i l8 y23 args G lpF hy ⟨hi15,el8⟩ ⟨rfl,rfl⟩ hkin;rw[zes hy]at hi15;simp only[zbv]at hi15;refine⟨_,_,rfl,rfl,?_⟩;rw[congrFun hT15 l8];refine zaa ?_;try simp only[rnA,Nat.reduceEqDiff,Nat.reduceLT,Nat.reduceAdd,zat,zam]
  obtain⟨o16,j16,hi15⟩:=bind_some hi15;obtain⟨T16,hT16⟩:=mkT fun a:(List Int)=>⟨105,[],[.gone,.cells [zaD,zaD,zaD],.cells [(dI x1.card),(fzE false (eI .i64) x1.parents),(fzE false (eL (eI .i64)) x1.rows)],.els 1 (y7.map ((eI .i64).c true)),.gone,.cells [(.sl 3 0 1 y7.length none y7.length),(.sl 7 0 1 l7.length none l7.length),(.sl 8 0 1 (Int.toNat (w64 ((x1.rows.length:Int)* x1.card))) (some (Int.toNat (w64 ((x1.rows.length:Int)* x1.card)))) (Int.toNat (w64 ((x1.rows.length:Int)* x1.card))))],.cells [(dI b6_0)],.grow 1 (l7.map ((eI .i64).c true)),.els 1 (a.map ((eI .i64).c true)),lpF]⟩
  refine EvL.jn T16 (fun a=>a=o16∧a.length=(Int.toNat (w64 ((x1.rows.length:Int)* x1.card)))) ?_ ?_
  ·refine zaa ?_;simp only[rnA];obtain⟨T17,hT17⟩:=mkT fun a:(Int×(List Int))=>⟨105,[(5,(.ptr 2 0)),(8,(.ptr 5 0)),(9,(.ptr 6 0)),(12,(dI y23.1)),(78,(fzE false (eI .i64) y23.2)),(79,(dI (y23.2.length:Int))),(80,(dI a.1))],[.gone,.cells [zaD,zaD,zaD],.cells [(dI x1.card),(fzE false (eI .i64) x1.parents),(fzE false (eL (eI .i64)) x1.rows)],.els 1 (y7.map ((eI .i64).c true)),.gone,.cells [(.sl 3 0 1 y7.length none y7.length),(.sl 7 0 1 l7.length none l7.length),(.sl 8 0 1 (Int.toNat (w64 ((x1.rows.length:Int)* x1.card))) (some (Int.toNat (w64 ((x1.rows.length:Int)* x1.card)))) (Int.toNat (w64 ((x1.rows.length:Int)* x1.card))))],.cells [(dI b6_0)],.grow 1 (l7.map ((eI .i64).c true)),.els 1 (a.2.map ((eI .i64).c true)),lpF]⟩
   refine EvL.rounds (α:=(Int×(List Int))) T17 (fun n a=>zbT y23 b6_0 x1 n a.1 a.2=some o16∧a.2.length=(Int.toNat (w64 ((x1.rows.length:Int)* x1.card)))) ((y23.2.length:Int) - 0+2:Int).toNat (0,l8) (by rw[hT17]; exact zaV.mK (k0:=10) [.k,.k,.k,.k,.k,.k,.k,.k,.k,.k] rfl rfl (msq (msq (msq (msq (msq (msq (msq trivial))))))) ⟨MB.same trivial,⟨MB.cs ⟨qb1,qb1,qb1,qb1⟩,⟨MB.cs ⟨qb1,qb1,qb1,qb1⟩,⟨MB.es (eI .i64) true y7,⟨MB.same trivial,⟨MB.cs ⟨rfl,rfl,rfl,qb1⟩,⟨MB.cs ⟨qb1,qb1⟩,⟨MB.gs (eI .i64) true l7,⟨MB.es (eI .i64) true l8,⟨.same (hkin _ (by decide)),qb1⟩⟩⟩⟩⟩⟩⟩⟩⟩⟩) ⟨j16,el8⟩ (fun _ h=>nomatch (show(none:Option (List Int))=some o16 from h.1)) ?_;rintro n ⟨v80,l8'⟩ ⟨j16,el8'⟩;simp only[zbT]at j16;rw[congrFun hT17 (v80,l8')];refine zaa ?_;try simp only[rnA,Nat.reduceEqDiff,Nat.reduceLT]
   cases c24:(decide (v80<(y23.2.length:Int)))
   ·rw[c24,cond_false]at j16;try simp only[rnA,Nat.reduceEqDiff]
    replace j16:=qaa j16; subst j16;exact⟨_,⟨rfl,el8'⟩,by rw[hT16]; exact zaV.mK (k0:=10) [.k,.k,.k,.k,.k,.k,.k,.k,.k,.k] rfl rfl qb1 ⟨MB.same trivial,⟨MB.cs ⟨qb1,qb1,qb1,qb1⟩,⟨MB.cs ⟨qb1,qb1,qb1,qb1⟩,⟨MB.es (eI .i64) true y7,⟨MB.same trivial,⟨MB.cs ⟨rfl,rfl,rfl,qb1⟩,⟨MB.cs ⟨qb1,qb1⟩,⟨MB.gs (eI .i64) true l7,⟨MB.es (eI .i64) true l8',⟨.same (hkin _ (by decide)),qb1⟩⟩⟩⟩⟩⟩⟩⟩⟩⟩⟩
   rw[c24,cond_true]at j16;obtain⟨x25,g26,j16⟩:=bind_some j16;obtain⟨q27,g28,j16⟩:=bind_some j16;obtain⟨q29,g30,j16⟩:=bind_some j16;obtain⟨x31,g32,j16⟩:=bind_some j16;obtain⟨y33,g34,j16⟩:=bind_some j16;try simp only[rnA,Nat.reduceEqDiff,Nat.reduceLT,Nat.reduceLeDiff,zak (n:=1) (e:=(eI .i64)) rfl g26,zce g28,zcq g28,zoM g30,el8',za3 g32,(show(w64 ((w64 ((w64 ((w64 (q27 * x1.card))+v80))* b6_0))+q29))<(((Int.toNat (w64 ((x1.rows.length:Int)* x1.card))):Nat):Int)from el8' ▸ zaY g32),zaB g32 ((eI .i64).c true),(show(l8'.map ((eI .i64).c true)).set (w64 ((w64 ((w64 ((w64 (q27 * x1.card))+v80))* b6_0))+q29)).toNat [(dI x25)]=y33.map ((eI .i64).c true)from za2 g34 ((eI .i64).c true))]
   exact⟨((w64 (v80+1)),y33),⟨j16,(zaR g34).trans el8'⟩,by rw[hT17]; exact zaV.mK (k0:=10) [.k,.k,.k,.k,.k,.k,.k,.k,.k,.k] rfl rfl (msq (msq (msq (msq (msq (msq (msq trivial))))))) ⟨MB.same trivial,⟨MB.cs ⟨qb1,qb1,qb1,qb1⟩,⟨MB.cs ⟨qb1,qb1,qb1,qb1⟩,⟨MB.es (eI .i64) true y7,⟨MB.same trivial,⟨MB.cs ⟨rfl,rfl,rfl,qb1⟩,⟨MB.cs ⟨qb1,qb1⟩,⟨MB.gs (eI .i64) true l7,⟨MB.es (eI .i64) true y33,⟨.same (hkin _ (by decide)),qb1⟩⟩⟩⟩⟩⟩⟩⟩⟩⟩⟩
  rintro l8' ⟨rfl,el8'⟩;rw[congrFun hT16 l8'];refine zaa ?_;try simp only[rnA]
  exact⟨T15 l8',by rw[hT15]; rfl,by rw[hT15]; exact zaV.mK [.k,.k,.k,.k,.k,.k,.k,.k,.k,.k] rfl rfl qb1 ⟨MB.same trivial,⟨MB.cs ⟨qb1,qb1,qb1,qb1⟩,⟨MB.cs ⟨qb1,qb1,qb1,qb1⟩,⟨MB.es (eI .i64) true y7,⟨MB.same trivial,⟨MB.cs ⟨rfl,rfl,rfl,qb1⟩,⟨MB.cs ⟨qb1,qb1⟩,⟨MB.gs (eI .i64) true l7,⟨MB.es (eI .i64) true l8',⟨.same (hkin _ (by decide)),qb1⟩⟩⟩⟩⟩⟩⟩⟩⟩⟩,l8',⟨hi15,el8'⟩,rfl⟩
 ·rintro l8 ⟨hi15,el8⟩;rw[qbi]at hi15;simp only[zbv]at hi15;exact⟨l8,(qaa hi15).symm,el8,rfl⟩
 ·rintro _ ⟨l8,oeq,el8,rfl⟩;have oeq2:=oeq.symm;subst oeq2;rw[congrFun hT15 l8];refine zaa ?_;try simp only[rnA,Nat.reduceEqDiff,Nat.reduceLT,Nat.reduceAdd,Nat.reduceLeDiff,zat]
  replace h:=qaa h; subst h;exact za0.ret rfl (.za8 (.cons (zaj (e:=(eI .i64)) (t:=true) rfl (.inl rfl) rfl rfl (fun k h=>nomatch h) (fun _=>rfl)) (.cons (zaj (e:=(eI .i64)) (t:=true) rfl (.inr rfl) rfl rfl (fun k h=>nomatch h) (fun _=>rfl)) (.cons (zaj (e:=(eI .i64)) (t:=true) rfl (.inl rfl) (el8).symm (el8).symm (fun k h=>by cases h; exact qae _) (fun _=>rfl)) .nil))))
 ·intro id L1 hx; exact hx.elim
 intro L1 hx; exact hx.2.2
def zdE(r1:(S_net_network×Int)):Nat→Int→(List S_api_Factor)→Option (List S_api_Factor)
 | 0,_,_=>none
 | n+1,v23,l2=>(
bif (decide (v23<(((Int.toNat (r1.1.net.nodes.length:Int)):Nat):Int)))then(
(zcI r1.1 v23).bind fun r7=>
(za6 l2 v23).bind fun x9=>
(zgN l2 v23 r7).bind fun y11=>
zdE r1 n (w64 (v23+1)) y11)
else(
some l2))
def ze6(p0:S_api_Net):Option ((List S_api_Factor)×Int):=
(zf6 p0).bind fun r1=>
bif (r1.2 == 0)then(
(zeO 72 (r1.1.net.nodes.length:Int) (S_api_Factor.mk [] [] [])).bind fun y4=>
((zdE r1 ((((Int.toNat (r1.1.net.nodes.length:Int)):Nat):Int) - 0+2:Int).toNat 0 y4:Option (List S_api_Factor))).bind fun l2=>
some (l2,0))
else(
some ([],r1.2))
theorem zjb{p0:S_api_Net}{r:((List S_api_Factor)×Int)}(h:ze6 p0=some r):Lx.Fn mC 125 [(.agg [(dI p0.grain),(fzE false zac p0.nodes)])] (.tup [(fzE true zab r.1),(dI r.2)]):=by
 refine fnO (by conv=>lhs; cbv) ?_;unfold ze6 at h;refine zaa ?_;obtain⟨r1,g2,h⟩:=bind_some h;try simp only[rnA,Nat.reduceEqDiff,Nat.reduceLT,Nat.reduceAdd,Nat.reduceLeDiff,reduceCtorEq]
 refine EvL.fnS (ziI g2) rfl rfl (.cons (Mzs.agg (.cons (.lit _) (.cons (zal _ _ (fun h=>by cases h<;>contradiction)) .nil))) .nil) ⟨⟨qb1,(zae _ _),qb1⟩,qb1⟩ ⟨⟨qb1,(zae _ _),(zae _ _),(zae _ _),(zae _ _),qb1⟩,qb1,qb1⟩ ?_;try simp only[rnA,Nat.reduceEqDiff,Nat.reduceLT,Nat.reduceAdd,Nat.reduceLeDiff,reduceCtorEq]
 cases c3:(r1.2 == 0)
 ·rw[c3,cond_false]at h;try simp only[rnA,Nat.reduceEqDiff,Nat.reduceLT,reduceCtorEq]
  replace h:=qaa h; subst h;exact za0.ret rfl (Snp.zb7 (.cons (zah zab) (.cons (.lit _) .nil)))
 rw[c3,cond_true]at h;obtain⟨y4,g5,h⟩:=bind_some h;try simp only[rnA,Nat.reduceEqDiff,Nat.reduceLT,Nat.reduceAdd,reduceCtorEq,zam,(zau g5).1.1,(zau g5).1.2,qa1,qbH]
 obtain⟨o1,j1,h⟩:=bind_some h;obtain⟨T1,hT1⟩:=mkT fun a:(List S_api_Factor)=>⟨34,[(6,(.sl 2 0 3 (Int.toNat (r1.1.net.nodes.length:Int)) (some (Int.toNat (r1.1.net.nodes.length:Int))) (Int.toNat (r1.1.net.nodes.length:Int))))],[.gone,.gone,.els 3 (a.map (zab.c true))]⟩
 refine EvL.jn T1 (fun a=>a=o1∧a.length=(Int.toNat (r1.1.net.nodes.length:Int))) ?_ ?_
 ·refine zaa ?_;simp only[rnA];obtain⟨T2,hT2⟩:=mkT fun a:(Int×(List S_api_Factor))=>⟨34,[(4,(.ptr 1 0)),(6,(.sl 2 0 3 (Int.toNat (r1.1.net.nodes.length:Int)) (some (Int.toNat (r1.1.net.nodes.length:Int))) (Int.toNat (r1.1.net.nodes.length:Int)))),(22,(dI (((Int.toNat (r1.1.net.nodes.length:Int)):Nat):Int))),(23,(dI a.1))],[.gone,.cells [(dI r1.1.net.grain),(fzE false zac r1.1.net.nodes),(fzE false (eI .i64) r1.1.cards),(fzE false (eI .u64) r1.1.sets),(fzE false (eI .i64) r1.1.order)],.els 3 (a.2.map (zab.c true))]⟩
  refine EvL.rounds (α:=(Int×(List S_api_Factor))) T2 (fun n a=>zdE r1 n a.1 a.2=some o1∧a.2.length=(Int.toNat (r1.1.net.nodes.length:Int))) ((((Int.toNat (r1.1.net.nodes.length:Int)):Nat):Int) - 0+2:Int).toNat (0,y4) (by rw[hT2]; exact wm0 [.d,.k,.k] ⟨rfl,⟨MB.cs ⟨qb1,qb1,qb1,qb1,qb1,qb1⟩,⟨MB.zt4 (zrc (e:=zab) (t:=true) g5 (.cons (.fr (zkS (eI .i64))) (.cons (.fr (zkS (eI .i64))) (.cons (.fr (zkS (eI .i64))) .nil)))),qb1⟩⟩⟩) ⟨j1,zaN g5⟩ (fun _ h=>nomatch (show(none:Option (List S_api_Factor))=some o1 from h.1)) ?_;rintro n ⟨v23,l2⟩ ⟨j1,el2⟩;simp only[zdE]at j1;rw[congrFun hT2 (v23,l2)];refine zaa ?_;try simp only[rnA,Nat.reduceEqDiff,Nat.reduceLT]
  cases c6:(decide (v23<(((Int.toNat (r1.1.net.nodes.length:Int)):Nat):Int)))
  ·rw[c6,cond_false]at j1;try simp only[rnA]
   replace j1:=qaa j1; subst j1;exact⟨_,⟨rfl,el2⟩,by rw[hT1]; exact wm0 [.d,.d,.k] ⟨rfl,⟨rfl,⟨MB.es zab true l2,qb1⟩⟩⟩⟩
  rw[c6,cond_true]at j1;obtain⟨r7,g8,j1⟩:=bind_some j1;try simp only[rnA,Nat.reduceEqDiff,Nat.reduceLT,Nat.reduceAdd,Nat.reduceLeDiff]
  refine EvL.fn (zfK g8) rfl rfl (.cons (.za8 (.cons (.lit _) (.cons (zad _ _ (fun h=>nomatch h)) (.cons (zad _ _ (fun h=>nomatch h)) (.cons (zad _ _ (fun h=>nomatch h)) (.cons (zad _ _ (fun h=>nomatch h)) .nil)))))) (.cons (.lit _) .nil)) ?_;obtain⟨x9,g10,j1⟩:=bind_some j1;obtain⟨y11,g12,j1⟩:=bind_some j1;try simp only[rnA,Nat.reduceEqDiff,Nat.reduceLT,Nat.reduceAdd,Nat.reduceLeDiff,zar,el2,za3 g10,(show v23<(((Int.toNat (r1.1.net.nodes.length:Int)):Nat):Int)from el2 ▸ zaY g10),zaB g10 (zab.c true),(show(l2.map (zab.c true)).set v23.toNat [(fzE true (eI .i64) r7.vars),(fzE true (eI .i64) r7.cards),(fzE true (eI .i64) r7.w)]=y11.map (zab.c true)from za2 g12 (zab.c true))]
  exact⟨((w64 (v23+1)),y11),⟨j1,(zaR g12).trans el2⟩,by rw[hT2]; exact wm0 [.d,.k,.k] ⟨rfl,⟨MB.cs ⟨qb1,qb1,qb1,qb1,qb1,qb1⟩,⟨MB.es zab true y11,qb1⟩⟩⟩⟩
 rintro l2 ⟨rfl,el2⟩;rw[congrFun hT1 l2];refine zaa ?_;try simp only[rnA,Nat.reduceEqDiff,Nat.reduceLT]
 replace h:=qaa h; subst h;exact za0.ret rfl (Snp.zb7 (.cons (zaj (e:=zab) (t:=true) rfl (.inl rfl) (el2).symm (el2).symm (fun k h=>by cases h; exact qae _) (fun _=>rfl)) (.cons (.lit _) .nil)))
def zde(r1:(S_factor_table×Int))(r4:Int)(p2:Int)(q21:Int):List (Int×Int×(List Int))→(List Int)→Option (List Int)
 | [],l5=>some l5
 | y31 :: ys,l5=>(
(za6 r1.1.steps r4).bind fun x32=>
(za6 r1.1.factor.w (w64 (y31.2.1+(w64 (p2 * x32))))).bind fun x34=>
(za6 l5 y31.1).bind fun x36=>
(zgN l5 y31.1 x34).bind fun y38=>
zde r1 r4 p2 q21 ys y38)
def zfS(p0:S_api_Factor)(p1:Int)(p2:Int):Option (S_api_Factor×Int):=
(zcc p0).bind fun r1=>
bif (r1.2 == 0)then(
(zay r1.1 p1).bind fun r4=>
bif (decide (r4<0))then(
some ((S_api_Factor.mk [] [] []),4))
else(
((bif (decide (p2<0))then(
some true)
else(
(za6 r1.1.factor.cards r4).bind fun x8=>
some (decide (x8≤p2))):Option Bool)).bind fun v42=>
bif v42 then(
some ((S_api_Factor.mk [] [] []),2))
else(
(zeY 8 r1.1.factor.vars).bind fun y11=>
(zqV y11 r4 (w64 (r4+1))).bind fun y13=>
(zeY 8 r1.1.factor.cards).bind fun y15=>
(zqV y15 r4 (w64 (r4+1))).bind fun y17=>
(za6 r1.1.factor.cards r4).bind fun x19=>
(zi1 .i64 (r1.1.factor.w.length:Int) x19).bind fun q21=>
(zeO 8 q21 0).bind fun y23=>
(zbB r1.1 y13).bind fun r25=>
(zcj y17 r25).bind fun r27=>
(zsU r27.1 r27.2).bind fun u29=>
((zde r1 r4 p2 q21 u29 y23:Option (List Int))).bind fun l5=>
some ((S_api_Factor.mk y13 y17 l5),0))))
else(
some ((S_api_Factor.mk [] [] []),r1.2))
def zhH:C:=
 .seq (rg [oW 3 0,
 oW 5 2,
 ⟨some 6,.alloc [(.slice none 0 0),(.slice none 0 0),(.slice none 0 0)],none⟩,
 oK 7 0])
 (.seq (rg [oN 17 3 3,
 oU 18 77 17,
 oM 16 18,
 oX 19 16 0,
 oX 20 16 1,
 ⟨some 8,.alloc [(.slice none 0 0),(.slice none 0 0),(.slice none 0 0),(.slice none 0 0)],none⟩,
 oS 4 8 19,
 oM 9 20])
 (.seq (.seq (rg [oM 21 9,
 oD 22 .neq 21 0])
 (.cond (.s 22) (.seq (rg [⟨some 23,.build [(.slice none 0 0),(.slice none 0 0),(.slice none 0 0)] [],none⟩,
 oM 24 9,
 oS 3 6 23,
 oM 7 24])
 (.ret))
 (.skip)))
 (.seq (rg [oN 25 4 8,
 oM 26 1,
 oV 27 90 25 26,
 ⟨some 10,.alloc [(.int .i64 0)],none⟩,
 oS 1 10 27])
 (.seq (.seq (rg [oL 28 10,
 oD 29 .lss 28 0])
 (.cond (.s 29) (.seq (rg [⟨some 30,.build [(.slice none 0 0),(.slice none 0 0),(.slice none 0 0)] [],none⟩,
 oS 3 6 30,
 oK 7 4])
 (.ret))
 (.skip)))
 (.seq (.seq (.scope (.reg true false [oL 31 5,
 oD 32 .lss 31 0,
 oM 33 32,
 oLg 34 5 33 false,
 oFg 35 0 8 33 false,
 oFg 36 1 35 33 false,
 oLg 37 36 33 false,
 oLg 38 10 33 false,
 ⟨some 39,.idxS 1 (.s 37) (.s 38),some (33,false)⟩,
 oLg 40 39 33 false,
 ⟨some 41,.bin .geq (.s 34) (.s 40),some (33,false)⟩,
 oP 42 33 41]))
 (.cond (.s 42) (.seq (rg [⟨some 43,.build [(.slice none 0 0),(.slice none 0 0),(.slice none 0 0)] [],none⟩,
 oS 3 6 43,
 oK 7 2])
 (.ret))
 (.skip)))
 (.seq (.reg true false [oF 44 0 8,
 oF 45 0 44,
 oL 46 45,
 oL 48 10,
 oL 49 10,
 oD 50 .add 49 1,
 oU 47 25 46,
 ⟨some 51,.call 91 [(.s 47),(.s 48),(.s 50)],none⟩,
 oM 11 51])
 (.seq (.reg true false [oF 52 0 8,
 oF 53 1 52,
 oL 54 53,
 oL 56 10,
 oL 57 10,
 oD 58 .add 57 1,
 oU 55 25 54,
 ⟨some 59,.call 91 [(.s 55),(.s 56),(.s 58)],none⟩,
 oM 12 59])
 (.seq (.reg true false [oF 60 0 8,
 oF 61 2 60,
 oL 62 61,
 oE 63 62,
 oF 64 0 8,
 oF 65 1 64,
 oL 66 65,
 oL 67 10,
 oI 68 1 66 67,
 oL 69 68,
 oB 70 .quo 63 69,
 ⟨some 71,.mk 1 8 [(.int .i64 0)] (.s 70) (.s 70),none⟩,
 ⟨some 13,.alloc [(.slice none 0 0)],none⟩,
 oS 1 13 71])
 (.seq (.seq (rg [oM 72 12,
 oN 73 4 8,
 oM 74 11,
 oV 75 85 73 74,
 oV 76 84 72 75])
 (.block 0 (.zem (.s 76) [77,78] (.seq (rg [oM 14 77])
 (rg [oM 15 78]))
 (.block 1 (.reg true false [oL 79 13,
 oM 80 14,
 oF 81 0 8,
 oF 82 2 81,
 oL 83 82,
 oM 84 15,
 oL 85 5,
 oF 86 3 8,
 oL 87 86,
 oL 88 10,
 oI 89 1 87 88,
 oL 90 89,
 oB 91 .mul 85 90,
 oB 92 .add 84 91,
 oI 93 1 83 92,
 oL 94 93,
 oI 95 1 79 80,
 oS 1 95 94])))))
 (.seq (rg [oM 96 11,
 oM 97 12,
 oL 98 13,
 ⟨some 99,.build [(.slice none 0 0),(.slice none 0 0),(.slice none 0 0)] [(0,1,(.s 96)),(1,1,(.s 97)),(2,1,(.s 98))],none⟩,
 oS 3 6 99,
 oK 7 0])
 (.ret)))))))))))
theorem zi8:zhM mC 36=some (100,zhH,[.cell 6 (some 3),.tmp 7],false):=zbs (by kernel_rfl)
theorem zkE{p0:S_api_Factor}{p1:Int}{p2:Int}{r:(S_api_Factor×Int)}(h:zfS p0 p1 p2=some r):Lx.Fn mC 36 [(.agg [(fzE false (eI .i64) p0.vars),(fzE false (eI .i64) p0.cards),(fzE false (eI .i64) p0.w)]),(dI p1),(dI p2)] (.tup [(.agg [(fzE true (eI .i64) r.1.vars),(fzE true (eI .i64) r.1.cards),(fzE true (eI .i64) r.1.w)]),(dI r.2)]):=by
 refine Fn.of zi8 (zaZ rfl) (qac rfl) ?_;unfold zfS at h;simp only[zhH,zlX];refine zaa ?_;obtain⟨r1,g2,h⟩:=bind_some h;try simp only[rnA,Nat.reduceEqDiff,Nat.reduceLT,Nat.reduceAdd,Nat.reduceLeDiff,reduceCtorEq]
 refine EvL.fnS (zcW g2) rfl rfl (.cons (Mzs.agg (.cons (zal _ _ (fun h=>by cases h<;>contradiction)) (.cons (zal _ _ (fun h=>by cases h<;>contradiction)) (.cons (zal _ _ (fun h=>by cases h<;>contradiction)) .nil)))) .nil) ⟨⟨(zae _ _),(zae _ _),(zae _ _),qb1⟩,qb1⟩ ⟨⟨(zae _ _),(zae _ _),(zae _ _),(zae _ _),qb1⟩,qb1,qb1⟩ ?_;try simp only[rnA,Nat.reduceEqDiff,Nat.reduceLT,Nat.reduceAdd,Nat.reduceLeDiff,reduceCtorEq]
 cases c3:(r1.2 == 0)
 ·rw[c3,cond_false]at h;try simp only[rnA,Nat.reduceEqDiff,Nat.reduceLT,Nat.reduceAdd,Nat.reduceLeDiff,reduceCtorEq]
  replace h:=qaa h; subst h;exact za0.ret rfl (Snp.zb7 (.cons (.za8 (.cons (zah (eI .i64)) (.cons (zah (eI .i64)) (.cons (zah (eI .i64)) .nil)))) (.cons (.lit _) .nil)))
 rw[c3,cond_true]at h;obtain⟨r4,g5,h⟩:=bind_some h;try simp only[rnA,Nat.reduceEqDiff,Nat.reduceLT,Nat.reduceAdd,Nat.reduceLeDiff,reduceCtorEq]
 refine EvL.fn (zaF g5) rfl rfl (.cons (.za8 (.cons (zad _ _ (fun h=>nomatch h)) (.cons (zad _ _ (fun h=>nomatch h)) (.cons (zad _ _ (fun h=>nomatch h)) (.cons (zad _ _ (fun h=>nomatch h)) .nil))))) (.cons (.lit _) .nil)) ?_;try simp only[rnA,Nat.reduceEqDiff,Nat.reduceLT,Nat.reduceAdd,Nat.reduceLeDiff,reduceCtorEq]
 cases c6:(decide (r4<0))
 ·rw[c6,cond_false]at h;try simp only[rnA]
  obtain⟨o1,j1,h⟩:=bind_some h;obtain⟨T1,hT1⟩:=mkT fun a:Bool=>⟨100,[(5,(.ptr 1 0)),(6,(.ptr 2 0)),(8,(.ptr 3 0)),(10,(.ptr 4 0)),(42,(dB a))],[.gone,.cells [(dI p2)],.cells [zaD,zaD,zaD],.cells [(fzE false (eI .i64) r1.1.factor.vars),(fzE false (eI .i64) r1.1.factor.cards),(fzE false (eI .i64) r1.1.factor.w),(fzE false (eI .i64) r1.1.steps)],.cells [(dI r4)]]⟩
  refine EvL.jn T1 (fun a=>a=o1) ?_ ?_
  ·refine zaa ?_;try simp only[rnA,Nat.reduceEqDiff,Nat.reduceLT,reduceCtorEq]
   cases c7:(decide (p2<0))
   ·rw[c7,cond_false]at j1;obtain⟨x8,g9,j1⟩:=bind_some j1;try simp only[rnA,Nat.reduceEqDiff,Nat.reduceLT,reduceCtorEq,zak (n:=1) (e:=(eI .i64)) rfl g9]
    replace j1:=qaa j1; subst j1;exact lfj hT1 rfl (wm0 [.d,.k,.k,.k,.k] ⟨rfl,⟨MB.cs ⟨qb1,qb1⟩,⟨MB.cs ⟨qb1,qb1,qb1,qb1⟩,⟨MB.cs ⟨qb1,qb1,qb1,qb1,qb1⟩,⟨MB.cs ⟨qb1,qb1⟩,qb1⟩⟩⟩⟩⟩)
   rw[c7,cond_true]at j1;try simp only[rnA,Nat.reduceEqDiff,Nat.reduceLT,reduceCtorEq]
   replace j1:=qaa j1; subst j1;exact lfj hT1 rfl (wm0 [.d,.k,.k,.k,.k] ⟨rfl,⟨MB.cs ⟨qb1,qb1⟩,⟨MB.cs ⟨qb1,qb1,qb1,qb1⟩,⟨MB.cs ⟨qb1,qb1,qb1,qb1,qb1⟩,⟨MB.cs ⟨qb1,qb1⟩,qb1⟩⟩⟩⟩⟩)
  rintro v42 rfl;rw[congrFun hT1 v42];refine zaa ?_;try simp only[rnA,Nat.reduceEqDiff]
  cases c10:v42
  ·rw[c10,cond_false]at h;obtain⟨y11,g12,h⟩:=bind_some h;try simp only[rnA,Nat.reduceEqDiff,Nat.reduceLT]
   refine EvL.clone (t:=false) (zs:=r1.1.factor.vars) g12 rfl rfl ?_;obtain⟨y13,g14,h⟩:=bind_some h;try simp only[rnA,Nat.reduceLT,Nat.reduceAdd]
   refine EvL.delete (zs:=y11) (t:=true) g14 rfl rfl rfl rfl rfl rfl ?_;refine EvL.zeH (S':=⟨100,[(5,(.ptr 1 0)),(6,(.ptr 2 0)),(8,(.ptr 3 0)),(10,(.ptr 4 0)),(51,(fzE true (eI .i64) y13))],[.gone,.cells [(dI p2)],.cells [zaD,zaD,zaD],.cells [(fzE false (eI .i64) r1.1.factor.vars),(fzE false (eI .i64) r1.1.factor.cards),(fzE false (eI .i64) r1.1.factor.w),(fzE false (eI .i64) r1.1.steps)],.cells [(dI r4)]]⟩) (zaV.m0 [.d,.k,.k,.k,.k,.f] rfl (msq (msq (msq (msq (mf rfl (zkv (xs:=y11) (ys:=y13) (t:=true) (zmn g14) rfl rfl rfl (fun _=>rfl)) trivial))))) ⟨rfl,⟨MB.cs ⟨qb1,qb1⟩,⟨MB.cs ⟨qb1,qb1,qb1,qb1⟩,⟨MB.cs ⟨qb1,qb1,qb1,qb1,qb1⟩,⟨MB.cs ⟨qb1,qb1⟩,qb1⟩⟩⟩⟩⟩) (zaa ?_);obtain⟨y15,g16,h⟩:=bind_some h;try simp only[rnA,Nat.reduceEqDiff,Nat.reduceLT]
   refine EvL.clone (t:=false) (zs:=r1.1.factor.cards) g16 rfl rfl ?_;obtain⟨y17,g18,h⟩:=bind_some h;try simp only[rnA,Nat.reduceLT,Nat.reduceAdd]
   refine EvL.delete (zs:=y15) (t:=true) g18 rfl rfl rfl rfl rfl rfl ?_;refine EvL.zeH (S':=⟨100,[(5,(.ptr 1 0)),(6,(.ptr 2 0)),(8,(.ptr 3 0)),(10,(.ptr 4 0)),(11,(fzE true (eI .i64) y13)),(59,(fzE true (eI .i64) y17))],[.gone,.cells [(dI p2)],.cells [zaD,zaD,zaD],.cells [(fzE false (eI .i64) r1.1.factor.vars),(fzE false (eI .i64) r1.1.factor.cards),(fzE false (eI .i64) r1.1.factor.w),(fzE false (eI .i64) r1.1.steps)],.cells [(dI r4)]]⟩) (zaV.m0 [.d,.k,.k,.k,.k,.f] rfl (msq (msq (msq (msq (msq (mf rfl (zkv (xs:=y15) (ys:=y17) (t:=true) (zmn g18) rfl rfl rfl (fun _=>rfl)) trivial)))))) ⟨rfl,⟨MB.cs ⟨qb1,qb1⟩,⟨MB.cs ⟨qb1,qb1,qb1,qb1⟩,⟨MB.cs ⟨qb1,qb1,qb1,qb1,qb1⟩,⟨MB.cs ⟨qb1,qb1⟩,qb1⟩⟩⟩⟩⟩) (zaa ?_);obtain⟨x19,g20,h⟩:=bind_some h;obtain⟨q21,g22,h⟩:=bind_some h;obtain⟨y23,g24,h⟩:=bind_some h;obtain⟨r25,g26,h⟩:=bind_some h;try simp only[rnA,Nat.reduceEqDiff,Nat.reduceLT,Nat.reduceAdd,Nat.reduceLeDiff,zam,zak (n:=1) (e:=(eI .i64)) rfl g20,zce g22,zcq g22,(zau g24).1.1,(zau g24).1.2,qa1,(show List.replicate (Int.toNat q21) [(dI 0)]=y23.map ((eI .i64).c true)from zbD g24 ((eI .i64).c true))]
   refine EvL.fn (zcy g26) rfl rfl (.cons (.za8 (.cons (zad _ _ (fun h=>nomatch h)) (.cons (zad _ _ (fun h=>nomatch h)) (.cons (zad _ _ (fun h=>nomatch h)) (.cons (zad _ _ (fun h=>nomatch h)) .nil))))) (.cons (zad _ _ (fun h=>nomatch h)) .nil)) ?_;obtain⟨r27,g28,h⟩:=bind_some h;try simp only[rnA,Nat.reduceLT]
   refine EvL.fnS (zcF g28) rfl rfl (.cons (zal _ _ (fun h=>by cases h<;>contradiction)) (.cons (zal _ _ (fun h=>by cases h<;>contradiction)) .nil)) ⟨(zae _ _),(zae _ _),qb1⟩ ⟨qb1,⟨⟨rfl,zae _ _,qb1⟩,⟨rfl,zae _ _,qb1⟩,qb1⟩⟩ ?_;try simp only[rnA,Nat.reduceLT]
   obtain⟨u29,g30,h⟩:=bind_some h;obtain⟨o2,j2,h⟩:=bind_some h;obtain⟨T2,hT2⟩:∃ T:(List Int)→List LB,T=(fun a=>[.gone,.cells [(dI p2)],.cells [zaD,zaD,zaD],.cells [(fzE false (eI .i64) r1.1.factor.vars),(fzE false (eI .i64) r1.1.factor.cards),(fzE false (eI .i64) r1.1.factor.w),(fzE false (eI .i64) r1.1.steps)],.cells [(dI r4)],.els 1 (a.map ((eI .i64).c true)),.cells [(.sl 5 0 1 (Int.toNat q21) (some (Int.toNat q21)) (Int.toNat q21))]]):=⟨_,rfl⟩;refine EvL.zeH (S':=⟨100,[(5,(.ptr 1 0)),(6,(.ptr 2 0)),(8,(.ptr 3 0)),(10,(.ptr 4 0)),(11,(fzE true (eI .i64) y13)),(12,(fzE true (eI .i64) y17)),(13,(.ptr 6 0)),(76,(.clo 120 [] [(.fptr false ((eL (eI .i64)).c false r27.1)),(.fptr false ((eL (eI .i64)).c false r27.2))]))],T2 y23⟩) (by rw[hT2]; exact wm0 [.k,.k,.k,.k,.k,.k,.k] ⟨MB.same trivial,⟨MB.cs ⟨qb1,qb1⟩,⟨MB.cs ⟨qb1,qb1,qb1,qb1⟩,⟨MB.cs ⟨qb1,qb1,qb1,qb1,qb1⟩,⟨MB.cs ⟨qb1,qb1⟩,⟨MB.es (eI .i64) true y23,⟨MB.cs ⟨rfl,qb1⟩,qb1⟩⟩⟩⟩⟩⟩⟩) ?_;refine EvL.ziJ (n0:=7) (zcx g30) rfl (bm:=.block 1 (.reg true false [⟨some 79,.load none (.s 13),none⟩,⟨some 80,.mov (.s 14),none⟩,⟨some 81,.fld 0 (.s 8),none⟩,⟨some 82,.fld 2 (.s 81),none⟩,⟨some 83,.load none (.s 82),none⟩,⟨some 84,.mov (.s 15),none⟩,⟨some 85,.load none (.s 5),none⟩,⟨some 86,.fld 3 (.s 8),none⟩,⟨some 87,.load none (.s 86),none⟩,⟨some 88,.load none (.s 10),none⟩,⟨some 89,.idxS 1 (.s 87) (.s 88),none⟩,⟨some 90,.load none (.s 89),none⟩,⟨some 91,.bin .mul (.s 85) (.s 90),none⟩,⟨some 92,.bin .add (.s 84) (.s 91),none⟩,⟨some 93,.idxS 1 (.s 83) (.s 92),none⟩,⟨some 94,.load none (.s 93),none⟩,⟨some 95,.idxS 1 (.s 79) (.s 80),none⟩,⟨none,.store 1 (.s 95) (.s 94),none⟩])) rfl T2 (fun i a=>zde r1 r4 p2 q21 (u29.drop i) a=some o2∧a.length=(Int.toNat q21)) (fun x L1=>match x with | .normal=>∃ a,o2=a∧a.length=(Int.toNat q21)∧L1=T2 a | .ret=>L1.length=7∧zcH (7+1) L1∧(za0 [.cell 6 (some 3),.tmp 7] ((.tup [(.agg [(fzE true (eI .i64) r.1.vars),(fzE true (eI .i64) r.1.cards),(fzE true (eI .i64) r.1.w)]),(dI r.2)]))) .ret ⟨100,[(5,(.ptr 1 0)),(6,(.ptr 2 0)),(8,(.ptr 3 0)),(10,(.ptr 4 0)),(11,(fzE true (eI .i64) y13)),(12,(fzE true (eI .i64) y17)),(13,(.ptr 6 0)),(76,(.clo 120 [] [(.fptr false ((eL (eI .i64)).c false r27.1)),(.fptr false ((eL (eI .i64)).c false r27.2))]))],L1 ++ [.lost]⟩| _=>False) y23 ?_ (qbn _) ?_ ?_ ?_ (fun d L1 hx=>hx.elim) ?_ ?_ ?_ ?_ ?_ ?_
   ·intro a; rw[hT2]; rfl
   ·exact⟨(qac rfl),(qac rfl),(qac rfl),(qac rfl),qb1,qb1,(qac rfl),⟨qb1,⟨qb1,qb1,qb1⟩⟩,qb1⟩
   ·intro a; rw[hT2]; exact⟨qb1,⟨qb1,qb1⟩,⟨qb1,qb1,qb1,qb1⟩,⟨qb1,qb1,qb1,qb1,qb1⟩,⟨qb1,qb1⟩,(zdg (eI .i64) _ _ _),⟨(qac rfl),qb1⟩,qb1⟩
   ·intro x L1 hx;cases x with
    | normal=>obtain⟨a,_,_,rfl⟩:=hx; exact⟨by rw[hT2]; rfl,by rw[hT2]; exact⟨qb1,⟨qb1,qb1⟩,⟨qb1,qb1,qb1,qb1⟩,⟨qb1,qb1,qb1,qb1,qb1⟩,⟨qb1,qb1⟩,(zdg (eI .i64) _ _ _),⟨(qac rfl),qb1⟩,qb1⟩⟩
    | ret=>exact⟨hx.1,hx.2.1⟩
    | exit id=>exact hx.elim
    | panic d=>exact hx.elim
   ·exact⟨j2,zaN g24⟩
   ·rintro i l5 y31 args G lpF hy ⟨hi2,el5⟩ ⟨rfl,rfl⟩ hkin;rw[zes hy]at hi2;simp only[zde]at hi2;refine⟨_,_,rfl,rfl,?_⟩;rw[congrFun hT2 l5];refine zaa ?_;obtain⟨x32,g33,hi2⟩:=bind_some hi2;obtain⟨x34,g35,hi2⟩:=bind_some hi2;obtain⟨x36,g37,hi2⟩:=bind_some hi2;obtain⟨y38,g39,hi2⟩:=bind_some hi2;try simp only[rnA,Nat.reduceEqDiff,Nat.reduceLT,Nat.reduceAdd,Nat.reduceLeDiff,zak (n:=1) (e:=(eI .i64)) rfl g33,zak (n:=1) (e:=(eI .i64)) rfl g35,el5,za3 g37,(show y31.1<(((Int.toNat q21):Nat):Int)from el5 ▸ zaY g37),zaB g37 ((eI .i64).c true),(show(l5.map ((eI .i64).c true)).set y31.1.toNat [(dI x34)]=y38.map ((eI .i64).c true)from za2 g39 ((eI .i64).c true))]
    exact⟨T2 y38,by rw[hT2]; rfl,by rw[hT2]; exact zaV.mK [.k,.k,.k,.k,.k,.k,.k,.k,.k] rfl rfl qb1 ⟨MB.same trivial,⟨MB.cs ⟨qb1,qb1⟩,⟨MB.cs ⟨qb1,qb1,qb1,qb1⟩,⟨MB.cs ⟨qb1,qb1,qb1,qb1,qb1⟩,⟨MB.cs ⟨qb1,qb1⟩,⟨MB.es (eI .i64) true y38,⟨MB.cs ⟨rfl,qb1⟩,⟨.same (hkin _ (by decide)),⟨MB.same (zeP _ _ _ _),qb1⟩⟩⟩⟩⟩⟩⟩⟩⟩,y38,⟨hi2,(zaR g39).trans el5⟩,rfl⟩
   ·rintro l5 ⟨hi2,el5⟩;rw[qbi]at hi2;simp only[zde]at hi2;exact⟨l5,(qaa hi2).symm,el5,rfl⟩
   ·rintro _ ⟨l5,oeq,el5,rfl⟩;have oeq2:=oeq.symm;subst oeq2;rw[congrFun hT2 l5];refine zaa ?_;try simp only[rnA,Nat.reduceEqDiff,Nat.reduceLT,Nat.reduceAdd,Nat.reduceLeDiff]
    replace h:=qaa h; subst h;exact za0.ret rfl (Snp.zb7 (.cons (.za8 (.cons (zad _ _ (fun _=>rfl)) (.cons (zad _ _ (fun _=>rfl)) (.cons (zaj (e:=(eI .i64)) (t:=true) rfl (.inl rfl) (el5).symm (el5).symm (fun k h=>by cases h; exact qae _) (fun _=>rfl)) .nil)))) (.cons (.lit _) .nil)))
   ·intro id L1 hx; exact hx.elim
   intro L1 hx; exact hx.2.2
  rw[c10,cond_true]at h;try simp only[rnA,Nat.reduceEqDiff,Nat.reduceLT,Nat.reduceAdd,Nat.reduceLeDiff]
  replace h:=qaa h; subst h;exact za0.ret rfl (Snp.zb7 (.cons (.za8 (.cons (zah (eI .i64)) (.cons (zah (eI .i64)) (.cons (zah (eI .i64)) .nil)))) (.cons (.lit _) .nil)))
 rw[c6,cond_true]at h;try simp only[rnA,Nat.reduceEqDiff,Nat.reduceLT,Nat.reduceAdd,Nat.reduceLeDiff,reduceCtorEq]
 replace h:=qaa h; subst h;exact za0.ret rfl (Snp.zb7 (.cons (.za8 (.cons (zah (eI .i64)) (.cons (zah (eI .i64)) (.cons (zah (eI .i64)) .nil)))) (.cons (.lit _) .nil)))
def zbd(p0:S_eliminate_query):Nat→Int→(List Int)→(List Int)→(List Int)→Option (Out ((List Int)×(List Int)×(List Int)) ((List S_api_Factor)×Int))
 | 0,_,_,_,_=>none
 | n+1,v37,b2_0,b2_1,b2_2=>(
bif (decide (v37<(p0.known.length:Int)))then(
(((za6 p0.known v37).bind fun x11=>
((bif (decide (x11<0))then(
some true)
else(
(zdc (S_api_Factor.mk b2_0 b2_1 b2_2) v37).bind fun r14=>
some (!r14)):Option Bool)).bind fun v49=>
bif v49 then(
some (.go (b2_0,b2_1,b2_2)))
else(
(zfS (S_api_Factor.mk b2_0 b2_1 b2_2) v37 x11).bind fun r17=>
bif (r17.2 == 0)then(
some (.go (r17.1.vars,r17.1.cards,r17.1.w)))
else(
some (.ret ([],r17.2)))):Option (Out ((List Int)×(List Int)×(List Int)) ((List S_api_Factor)×Int)))).bind fun o=>match o with
| .go (b2_0',b2_1',b2_2')=>(
zbd p0 n (w64 (v37+1)) b2_0' b2_1' b2_2')
| .ret r=>some (.ret r))
else(
some (.go (b2_0,b2_1,b2_2))))
def zbb(r1:((List S_api_Factor)×Int))(p1:Int)(p0:S_eliminate_query):Nat→Int→(List S_api_Factor)→Option (Out (List S_api_Factor) ((List S_api_Factor)×Int))
 | 0,_,_=>none
 | n+1,v24,l1=>(
bif (decide (v24<(r1.1.length:Int)))then(
(((za6 r1.1 v24).bind fun x5=>
(zl2 .u64 p1 v24).bind fun q7=>
bif ((zi0 .u64 q7 1)== 0)then(
some (.go l1))
else(
((zbd p0 ((p0.known.length:Int) - 0+2:Int).toNat 0 x5.vars x5.cards x5.w:Option (Out ((List Int)×(List Int)×(List Int)) ((List S_api_Factor)×Int)))).bind fun o=>match o with
| .go (b2_0,b2_1,b2_2)=>(
(ze9 72 l1 [(S_api_Factor.mk b2_0 b2_1 b2_2)]).bind fun y20=>
some (.go y20))
| .ret r=>some (.ret r)):Option (Out (List S_api_Factor) ((List S_api_Factor)×Int)))).bind fun o=>match o with
| .go l1'=>(
zbb r1 p1 p0 n (w64 (v24+1)) l1')
| .ret r=>some (.ret r))
else(
some (.go l1)))
def zbp(p0:S_eliminate_query)(p1:Int):Option ((List S_api_Factor)×Int):=
(ze6 p0.net).bind fun r1=>
bif (r1.2 == 0)then(
((zbb r1 p1 p0 ((r1.1.length:Int) - 0+2:Int).toNat 0 []:Option (Out (List S_api_Factor) ((List S_api_Factor)×Int)))).bind fun o=>match o with
| .go l1=>(
some (l1,0))
| .ret r=>some r)
else(
some ([],r1.2))
theorem zcG{p0:S_eliminate_query}{p1:Int}{r:((List S_api_Factor)×Int)}(h:zbp p0 p1=some r):Lx.Fn mC 98 [(.agg [(dI p0.net.grain),(fzE false zac p0.net.nodes),(fzE false (eI .i64) p0.known),(dI p0.node)]),(dU p1)] (.tup [(fzE true zab r.1),(dI r.2)]):=by
 refine fnO (by conv=>lhs; cbv) ?_;unfold zbp at h;refine zaa ?_;obtain⟨r1,g2,h⟩:=bind_some h;try simp only[rnA,Nat.reduceEqDiff,Nat.reduceLT,Nat.reduceAdd,Nat.reduceLeDiff,reduceCtorEq]
 refine EvL.fn (zjb g2) rfl rfl (.cons (.za8 (.cons (.lit _) (.cons (zad _ _ (fun h=>nomatch h)) .nil))) .nil) ?_;try simp only[rnA,Nat.reduceEqDiff,Nat.reduceLT,reduceCtorEq]
 cases c3:(r1.2 == 0)
 ·rw[c3,cond_false]at h;try simp only[rnA,Nat.reduceEqDiff,Nat.reduceLT,reduceCtorEq]
  replace h:=qaa h; subst h;exact za0.ret rfl (Snp.zb7 (.cons (zah zab) (.cons (.lit _) .nil)))
 rw[c3,cond_true]at h;try simp only[rnA,Nat.reduceEqDiff,Nat.reduceLT,reduceCtorEq,zam]
 obtain⟨o185,j185,h⟩:=bind_some h;obtain⟨T185,hT185⟩:=mkT fun a:(List S_api_Factor)=>⟨67,[(8,(.sl 1 0 3 a.length none a.length))],[.gone,.grow 3 (a.map (zab.c true))]⟩
 refine EvL.jn T185 (fun a=>o185=.go a) ?_ ?_
 ·refine zaa ?_;simp only[rnA];obtain⟨T329,hT329⟩:=mkT fun a:(Int×(List S_api_Factor))=>⟨67,[(1,(dU p1)),(2,(.ptr 0 0)),(8,(.sl 1 0 3 a.2.length none a.2.length)),(22,(fzE true zab r1.1)),(23,(dI (r1.1.length:Int))),(24,(dI a.1))],[.cells [(dI p0.net.grain),(fzE false zac p0.net.nodes),(fzE false (eI .i64) p0.known),(dI p0.node)],.grow 3 (a.2.map (zab.c true))]⟩
  refine EvL.zeH (zaV.ghost (n:=3) (k:=8) (by decide) rfl) ?_;refine EvL.rounds (α:=(Int×(List S_api_Factor))) T329 (fun n a=>zbb r1 p1 p0 n a.1 a.2=some o185) ((r1.1.length:Int) - 0+2:Int).toNat (0,[]) (by rw[hT329]; exact wm0 [.k,.k] ⟨MB.cs ⟨qb1,qb1,qb1,qb1,qb1⟩,⟨MB.gs zab true [],qb1⟩⟩) j185 (fun _ h=>nomatch (show(none:Option (Out (List S_api_Factor) ((List S_api_Factor)×Int)))=some o185 from h)) ?_;rintro n ⟨v24,l1⟩ j185;simp only[zbb]at j185;rw[congrFun hT329 (v24,l1)];refine zaa ?_;try simp only[rnA,Nat.reduceEqDiff,Nat.reduceLT]
  cases c4:(decide (v24<(r1.1.length:Int)))
  ·rw[c4,cond_false]at j185;try simp only[rnA]
   replace j185:=qaa j185; subst j185;exact lfj hT185 rfl (wm0 [.d,.k] ⟨rfl,⟨MB.gs zab true l1,qb1⟩⟩)
  rw[c4,cond_true]at j185;try simp only[rnA]
  obtain⟨o350,j350,j185⟩:=bind_some j185;obtain⟨T350,hT350⟩:=mkT fun a:(List S_api_Factor)=>⟨67,[(1,(dU p1)),(2,(.ptr 0 0)),(8,(.sl 1 0 3 a.length none a.length)),(22,(fzE true zab r1.1)),(23,(dI (r1.1.length:Int))),(24,(dI v24))],[.cells [(dI p0.net.grain),(fzE false zac p0.net.nodes),(fzE false (eI .i64) p0.known),(dI p0.node)],.grow 3 (a.map (zab.c true))]⟩
  refine EvL.jn T350 (fun a=>o350=.go a) ?_ ?_
  ·refine zaa ?_;obtain⟨x5,g6,j350⟩:=bind_some j350;obtain⟨q7,g8,j350⟩:=bind_some j350;try simp only[rnA,Nat.reduceEqDiff,Nat.reduceLT,Nat.reduceAdd,Nat.reduceLeDiff,zar,zak (n:=3) (e:=zab) rfl g6,(zaQ g8).1,(zaQ g8).2]
   cases c9:((zi0 .u64 q7 1)== 0)
   ·rw[c9,cond_false]at j350;try simp only[rnA,Nat.reduceEqDiff,Nat.reduceLT,zam]
    obtain⟨o360,j360,j350⟩:=bind_some j350;obtain⟨T360,hT360⟩:=mkT fun a:((List Int)×(List Int)×(List Int))=>⟨67,[(1,(dU p1)),(2,(.ptr 0 0)),(8,(.sl 1 0 3 l1.length none l1.length)),(10,(.ptr 2 0)),(22,(fzE true zab r1.1)),(23,(dI (r1.1.length:Int))),(24,(dI v24))],[.cells [(dI p0.net.grain),(fzE false zac p0.net.nodes),(fzE false (eI .i64) p0.known),(dI p0.node)],.grow 3 (l1.map (zab.c true)),.cells [(fzE true (eI .i64) a.1),(fzE true (eI .i64) a.2.1),(fzE true (eI .i64) a.2.2)]]⟩
    refine EvL.jn T360 (fun a=>o360=.go a) ?_ ?_
    ·refine zaa ?_;simp only[rnA];obtain⟨T367,hT367⟩:=mkT fun a:(Int×(List Int)×(List Int)×(List Int))=>⟨67,[(1,(dU p1)),(2,(.ptr 0 0)),(8,(.sl 1 0 3 l1.length none l1.length)),(10,(.ptr 2 0)),(22,(fzE true zab r1.1)),(23,(dI (r1.1.length:Int))),(24,(dI v24)),(35,(fzE false (eI .i64) p0.known)),(36,(dI (p0.known.length:Int))),(37,(dI a.1))],[.cells [(dI p0.net.grain),(fzE false zac p0.net.nodes),(fzE false (eI .i64) p0.known),(dI p0.node)],.grow 3 (l1.map (zab.c true)),.cells [(fzE true (eI .i64) a.2.1),(fzE true (eI .i64) a.2.2.1),(fzE true (eI .i64) a.2.2.2)]]⟩
     refine EvL.rounds (α:=(Int×(List Int)×(List Int)×(List Int))) T367 (fun n a=>zbd p0 n a.1 a.2.1 a.2.2.1 a.2.2.2=some o360) ((p0.known.length:Int) - 0+2:Int).toNat (0,x5.vars,x5.cards,x5.w) (by rw[hT367]; exact wm0 [.k,.k,.k] ⟨MB.cs ⟨qb1,qb1,qb1,qb1,qb1⟩,⟨MB.gs zab true l1,⟨MB.cs ⟨qb1,qb1,qb1,qb1⟩,qb1⟩⟩⟩) j360 (fun _ h=>nomatch (show(none:Option (Out ((List Int)×(List Int)×(List Int)) ((List S_api_Factor)×Int)))=some o360 from h)) ?_;rintro n ⟨v37,b2_0,b2_1,b2_2⟩ j360;simp only[zbd]at j360;rw[congrFun hT367 (v37,b2_0,b2_1,b2_2)];refine zaa ?_;try simp only[rnA,Nat.reduceEqDiff,Nat.reduceLT]
     cases c10:(decide (v37<(p0.known.length:Int)))
     ·rw[c10,cond_false]at j360;try simp only[rnA,Nat.reduceEqDiff,reduceCtorEq]
      replace j360:=qaa j360; subst j360;exact lfj hT360 rfl (wm0 [.k,.k,.k] ⟨MB.cs ⟨qb1,qb1,qb1,qb1,qb1⟩,⟨MB.gs zab true l1,⟨MB.cs ⟨qb1,qb1,qb1,qb1⟩,qb1⟩⟩⟩)
     rw[c10,cond_true]at j360;try simp only[rnA]
     obtain⟨o369,j369,j360⟩:=bind_some j360;obtain⟨T369,hT369⟩:=mkT fun a:((List Int)×(List Int)×(List Int))=>⟨67,[(1,(dU p1)),(2,(.ptr 0 0)),(8,(.sl 1 0 3 l1.length none l1.length)),(10,(.ptr 2 0)),(22,(fzE true zab r1.1)),(23,(dI (r1.1.length:Int))),(24,(dI v24)),(35,(fzE false (eI .i64) p0.known)),(36,(dI (p0.known.length:Int))),(37,(dI v37))],[.cells [(dI p0.net.grain),(fzE false zac p0.net.nodes),(fzE false (eI .i64) p0.known),(dI p0.node)],.grow 3 (l1.map (zab.c true)),.cells [(fzE true (eI .i64) a.1),(fzE true (eI .i64) a.2.1),(fzE true (eI .i64) a.2.2)]]⟩
     refine EvL.jn T369 (fun a=>o369=.go a) ?_ ?_
     ·refine zaa ?_;obtain⟨x11,g12,j369⟩:=bind_some j369;try simp only[rnA,Nat.reduceEqDiff,Nat.reduceLT,zak (n:=1) (e:=(eI .i64)) rfl g12]
      obtain⟨o370,j370,j369⟩:=bind_some j369;obtain⟨T370,hT370⟩:=mkT fun a:Bool=>⟨67,[(1,(dU p1)),(2,(.ptr 0 0)),(8,(.sl 1 0 3 l1.length none l1.length)),(10,(.ptr 2 0)),(11,(dI v37)),(12,(dI x11)),(22,(fzE true zab r1.1)),(23,(dI (r1.1.length:Int))),(24,(dI v24)),(35,(fzE false (eI .i64) p0.known)),(36,(dI (p0.known.length:Int))),(37,(dI v37)),(49,(dB a))],[.cells [(dI p0.net.grain),(fzE false zac p0.net.nodes),(fzE false (eI .i64) p0.known),(dI p0.node)],.grow 3 (l1.map (zab.c true)),.cells [(fzE true (eI .i64) b2_0),(fzE true (eI .i64) b2_1),(fzE true (eI .i64) b2_2)]]⟩
      refine EvL.jn T370 (fun a=>a=o370) ?_ ?_
      ·refine zaa ?_;try simp only[rnA,Nat.reduceEqDiff,Nat.reduceLT]
       cases c13:(decide (x11<0))
       ·rw[c13,cond_false]at j370;obtain⟨r14,g15,j370⟩:=bind_some j370;try simp only[rnA,Nat.reduceEqDiff,Nat.reduceLT,Nat.reduceAdd,Nat.reduceLeDiff]
        refine EvL.fn (zfr g15) rfl rfl (.cons (.za8 (.cons (zad _ _ (fun h=>nomatch h)) (.cons (zad _ _ (fun h=>nomatch h)) (.cons (zad _ _ (fun h=>nomatch h)) .nil)))) (.cons (.lit _) .nil)) ?_;try simp only[rnA,Nat.reduceEqDiff,Nat.reduceLT]
        replace j370:=qaa j370; subst j370;exact lfj hT370 rfl (wm0 [.k,.k,.k] ⟨MB.cs ⟨qb1,qb1,qb1,qb1,qb1⟩,⟨MB.gs zab true l1,⟨MB.cs ⟨qb1,qb1,qb1,qb1⟩,qb1⟩⟩⟩)
       rw[c13,cond_true]at j370;try simp only[rnA,Nat.reduceEqDiff,Nat.reduceLT]
       refine EvL.skip rfl ?_;try simp only[rnA,Nat.reduceEqDiff,Nat.reduceLT]
       replace j370:=qaa j370; subst j370;exact lfj hT370 rfl (wm0 [.k,.k,.k] ⟨MB.cs ⟨qb1,qb1,qb1,qb1,qb1⟩,⟨MB.gs zab true l1,⟨MB.cs ⟨qb1,qb1,qb1,qb1⟩,qb1⟩⟩⟩)
      rintro v49 rfl;rw[congrFun hT370 v49];refine zaa ?_;try simp only[rnA,Nat.reduceEqDiff]
      cases c16:v49
      ·rw[c16,cond_false]at j369;obtain⟨r17,g18,j369⟩:=bind_some j369;try simp only[rnA,Nat.reduceEqDiff,Nat.reduceLT,Nat.reduceAdd,Nat.reduceLeDiff]
       refine EvL.fn (zkE g18) rfl rfl (.cons (.za8 (.cons (zad _ _ (fun h=>nomatch h)) (.cons (zad _ _ (fun h=>nomatch h)) (.cons (zad _ _ (fun h=>nomatch h)) .nil)))) (.cons (.lit _) (.cons (.lit _) .nil))) ?_;try simp only[rnA,Nat.reduceEqDiff,Nat.reduceLT,Nat.reduceAdd,Nat.reduceLeDiff]
       cases c19:(r17.2 == 0)
       ·rw[c19,cond_false]at j369;try simp only[rnA,Nat.reduceEqDiff,Nat.reduceLT]
        replace j369:=qaa j369; subst j369;dsimp only at j360;replace j360:=qaa j360; subst j360;dsimp only at j350;replace j350:=qaa j350; subst j350;dsimp only at j185;replace j185:=qaa j185; subst j185;dsimp only at h;replace h:=qaa h; subst h;exact za0.ret rfl (Snp.zb7 (.cons (zah zab) (.cons (.lit _) .nil)))
       rw[c19,cond_true]at j369;try simp only[rnA]
       replace j369:=qaa j369; subst j369;exact lfj hT369 rfl (wm0 [.k,.k,.k] ⟨MB.cs ⟨qb1,qb1,qb1,qb1,qb1⟩,⟨MB.gs zab true l1,⟨MB.cs ⟨qb1,qb1,qb1,qb1⟩,qb1⟩⟩⟩)
      rw[c16,cond_true]at j369;try simp only[rnA,Nat.reduceEqDiff,reduceCtorEq]
      replace j369:=qaa j369; subst j369;exact lfj hT369 rfl (wm0 [.k,.k,.k] ⟨MB.cs ⟨qb1,qb1,qb1,qb1,qb1⟩,⟨MB.gs zab true l1,⟨MB.cs ⟨qb1,qb1,qb1,qb1⟩,qb1⟩⟩⟩)
     rintro⟨b2_0',b2_1',b2_2'⟩ rfl;dsimp only at j360;rw[congrFun hT369 (b2_0',b2_1',b2_2')];refine zaa ?_;try simp only[rnA,Nat.reduceEqDiff,Nat.reduceLT]
     exact⟨((w64 (v37+1)),b2_0',b2_1',b2_2'),j360,by rw[hT367]; exact wm0 [.k,.k,.k] ⟨MB.cs ⟨qb1,qb1,qb1,qb1,qb1⟩,⟨MB.gs zab true l1,⟨MB.cs ⟨qb1,qb1,qb1,qb1⟩,qb1⟩⟩⟩⟩
    rintro⟨b2_0,b2_1,b2_2⟩ rfl;dsimp only at j350;rw[congrFun hT360 (b2_0,b2_1,b2_2)];refine zaa ?_;obtain⟨y20,g21,j350⟩:=bind_some j350;try simp only[rnA,Nat.reduceEqDiff,Nat.reduceLT,Nat.reduceAdd,Nat.reduceLeDiff,zcE g21,(show l1.length+1=y20.length from zbC g21),(show l1.map (zab.c true)++ [[(fzE true (eI .i64) b2_0),(fzE true (eI .i64) b2_1),(fzE true (eI .i64) b2_2)]]=y20.map (zab.c true)from zcm g21 (zab.c true))]
    replace j350:=qaa j350; subst j350;exact lfj hT350 rfl (wm0 [.k,.k] ⟨MB.cs ⟨qb1,qb1,qb1,qb1,qb1⟩,⟨MB.gs zab true y20,qb1⟩⟩)
   rw[c9,cond_true]at j350;try simp only[rnA,reduceCtorEq]
   replace j350:=qaa j350; subst j350;exact lfj hT350 rfl (wm0 [.k,.k] ⟨MB.cs ⟨qb1,qb1,qb1,qb1,qb1⟩,⟨MB.gs zab true l1,qb1⟩⟩)
  rintro l1' rfl;dsimp only at j185;rw[congrFun hT350 l1'];refine zaa ?_;try simp only[rnA,Nat.reduceEqDiff,Nat.reduceLT]
  exact⟨((w64 (v24+1)),l1'),j185,by rw[hT329]; exact wm0 [.k,.k] ⟨MB.cs ⟨qb1,qb1,qb1,qb1,qb1⟩,⟨MB.gs zab true l1',qb1⟩⟩⟩
 rintro l1 rfl;dsimp only at h;rw[congrFun hT185 l1];refine zaa ?_;try simp only[rnA,Nat.reduceEqDiff,Nat.reduceLT]
 replace h:=qaa h; subst h;exact za0.ret rfl (Snp.zb7 (.cons (zaj (e:=zab) (t:=true) rfl (.inr rfl) rfl rfl (fun k h=>nomatch h) (fun _=>rfl)) (.cons (.lit _) .nil)))
def za1(N:Nat)(x15:S_api_Node)(p0:S_eliminate_query)(r11:(Int×Int))(b1_2:(List Int)):Nat→Int→(List S_api_Q)→Option (Out (List S_api_Q) ((List S_api_Q)×Int))
 | 0,_,_=>none
 | n+1,v55,l5=>(
bif (decide (v55<(((Int.toNat x15.card):Nat):Int)))then(
(za6 p0.known p0.node).bind fun x20=>
((bif (x20 == v55)then(
some r11.1)
else(
bif (decide (x20<0))then(
(za6 b1_2 v55).bind fun x24=>
some x24)
else(
some 0)):Option Int)).bind fun v15=>
(zgu N v15 r11.1).bind fun r26=>
(za6 l5 v55).bind fun x28=>
(zgN l5 v55 r26.1).bind fun y30=>
bif (r26.2 == 0)then(
za1 N x15 p0 r11 b1_2 n (w64 (v55+1)) y30)
else(
some (.ret ([],r26.2))))
else(
some (.go l5)))
def zaK:List StI→(List Int)→(List Int)→(List Int)→Option ((List Int)×(List Int)×(List Int))
 | [],b1_0,b1_1,b1_2=>some (b1_0,b1_1,b1_2)
 | y10 :: ys,b1_0,b1_1,b1_2=>(
zaK ys y10.1.product.vars y10.1.product.cards y10.1.product.w)
def zaM(N:Nat)(p0:S_eliminate_query)(p1:(List Int))(p2:Int):Option ((List S_api_Q)×Int):=
(zbp p0 p2).bind fun r1=>
bif (r1.2 == 0)then(
(zev).bind fun r4=>
(zdC p0 r1.1 p1).bind fun r6=>
(zns r6.1 r6.2.1 r6.2.2).bind fun u8=>
((zaK u8 r4.vars r4.cards r4.w:Option ((List Int)×(List Int)×(List Int)))).bind fun o=>match o with
|(b1_0,b1_1,b1_2)=>(
(zeI (S_api_Factor.mk b1_0 b1_1 b1_2)).bind fun r11=>
bif (r11.2 == 0)then(
bif (r11.1 == 0)then(
some ([],7))
else(
(za6 p0.net.nodes p0.node).bind fun x15=>
(zeO 16 x15.card (S_api_Q.mk 0 0)).bind fun y17=>
((za1 N x15 p0 r11 b1_2 ((((Int.toNat x15.card):Nat):Int) - 0+2:Int).toNat 0 y17:Option (Out (List S_api_Q) ((List S_api_Q)×Int)))).bind fun o=>match o with
| .go l5=>(
some (l5,0))
| .ret r=>some r))
else(
some ([],r11.2))))
else(
some ([],r1.2))
theorem zbE{N:Nat}{p0:S_eliminate_query}{p1:(List Int)}{p2:Int}{r:((List S_api_Q)×Int)}(h:zaM N p0 p1 p2=some r):Lx.Fn mC 95 [(.agg [(dI p0.net.grain),(fzE false zac p0.net.nodes),(fzE false (eI .i64) p0.known),(dI p0.node)]),(fzE false (eI .i64) p1),(dU p2)] (.tup [(fzE true zaq r.1),(dI r.2)]):=by
 refine fnO (by conv=>lhs; cbv) ?_;unfold zaM at h;refine zaa ?_;obtain⟨r1,g2,h⟩:=bind_some h;try simp only[rnA,Nat.reduceEqDiff,Nat.reduceLT,Nat.reduceAdd,Nat.reduceLeDiff,reduceCtorEq]
 refine EvL.fn (zcG g2) rfl rfl (.cons (.za8 (.cons (.lit _) (.cons (zad _ _ (fun h=>nomatch h)) (.cons (zad _ _ (fun h=>nomatch h)) (.cons (.lit _) .nil))))) (.cons (.lit _) .nil)) ?_;try simp only[rnA,Nat.reduceEqDiff,Nat.reduceLT,reduceCtorEq]
 cases c3:(r1.2 == 0)
 ·rw[c3,cond_false]at h;try simp only[rnA,Nat.reduceEqDiff,Nat.reduceLT,reduceCtorEq]
  replace h:=qaa h; subst h;exact za0.ret rfl (Snp.zb7 (.cons (zah zaq) (.cons (.lit _) .nil)))
 rw[c3,cond_true]at h;obtain⟨r4,g5,h⟩:=bind_some h;try simp only[rnA]
 refine EvL.fn (zgM g5) rfl rfl .nil ?_;obtain⟨r6,g7,h⟩:=bind_some h;try simp only[rnA,Nat.reduceEqDiff,Nat.reduceLT,Nat.reduceAdd,Nat.reduceLeDiff,reduceCtorEq]
 refine EvL.fnT (r:=(.clo 127 [] [(.fptr false ((eL (eI .i64)).c false r6.2.2)),(.fptr false (zao.c false r6.1)),(.ptr 3 0)])) (L':=[.cells [(dI p0.net.grain),(fzE false zac p0.net.nodes),(fzE false (eI .i64) p0.known),(dI p0.node)],.cells [(fzE true (eI .i64) r4.vars),(fzE true (eI .i64) r4.cards),(fzE true (eI .i64) r4.w)],.gone,.cells [(fzE false zab r6.2.1)]]) (zeA g7) rfl rfl (.cons (Mzs.agg (.cons (.lit _) (.cons (zal _ _ (fun h=>by cases h<;>contradiction)) (.cons (zal _ _ (fun h=>by cases h<;>contradiction)) (.cons (.lit _) .nil))))) (.cons (zal _ _ (fun h=>by cases h<;>contradiction)) (.cons (zal _ _ (fun h=>by cases h<;>contradiction)) .nil))) ⟨⟨qb1,(zae _ _),(zae _ _),qb1,qb1⟩,(zae _ _),(zae _ _),qb1⟩ ⟨⟨qb1,fun y hy=>by simp only[qa0,List.not_mem_nil,or_false]at hy; rcases hy with rfl | rfl | rfl<;>first | trivial | exact⟨rfl,(eL (eI .i64)).fr _⟩| exact⟨rfl,zao.fr _⟩⟩,qb1⟩ ⟨qb1,⟨⟨zae _ _,qb1⟩,qb1⟩⟩ rfl rfl ?_;try simp only[rnA,Nat.reduceLT,zaw]
 obtain⟨u8,g9,h⟩:=bind_some h;obtain⟨o1,j1,h⟩:=bind_some h;obtain⟨T1,hT1⟩:∃ T:((List Int)×(List Int)×(List Int))→LB→List LB,T=(fun a g=>[.cells [(dI p0.net.grain),(fzE false zac p0.net.nodes),(fzE false (eI .i64) p0.known),(dI p0.node)],.cells [(fzE true (eI .i64) a.1),(fzE true (eI .i64) a.2.1),(fzE true (eI .i64) a.2.2)],.gone,g]):=⟨_,rfl⟩;refine EvL.zeH (S':=⟨91,[(3,(.ptr 0 0)),(10,(.ptr 1 0)),(30,(.clo 127 [] [(.fptr false ((eL (eI .i64)).c false r6.2.2)),(.fptr false (zao.c false r6.1)),(.ptr 3 0)]))],T1 (r4.vars,r4.cards,r4.w) (stG r6.2.1 u8 0)⟩) (by rw[hT1,zls g9]; exact wm0 [.k,.k,.k,.k] ⟨MB.cs ⟨qb1,qb1,qb1,qb1,qb1⟩,⟨MB.cs ⟨qb1,qb1,qb1,qb1⟩,⟨MB.same trivial,⟨MB.same ⟨qb1,qb1⟩,qb1⟩⟩⟩⟩) ?_;refine EvL.zsD (n0:=4) (zlc g9 3) rfl (bm:=.block 1 (.reg false false [⟨some 32,.fld 1 (.s 11),none⟩,⟨some 33,.load (some 3) (.s 32),none⟩,⟨none,.store 3 (.s 10) (.s 33),none⟩])) rfl T1 (fun i a=>zaK (u8.drop i) a.1 a.2.1 a.2.2=some o1) (fun x L1=>match x with | .normal=>∃ a,∃ g,(∀ kp,LB.kin kp g)∧(∀ n,LB.sc n g)∧o1=a∧L1=T1 a g | .ret=>L1.length=4∧zcH (4+1) L1∧(za0 [.tmp 6,.tmp 7] ((.tup [(fzE true zaq r.1),(dI r.2)]))) .ret ⟨91,[(3,(.ptr 0 0)),(10,(.ptr 1 0)),(30,(.clo 127 [] [(.fptr false ((eL (eI .i64)).c false r6.2.2)),(.fptr false (zao.c false r6.1)),(.ptr 3 0)]))],L1 ++ [.lost]⟩| _=>False) (r4.vars,r4.cards,r4.w) (by decide) ?_ ?_ ?_ (zkf _ _) (qbn _) ?_ (znf _ _) ?_ ?_ (fun d L1 hx=>hx.elim) ?_ ?_ ?_ ?_ ?_ ?_
 ·intros; rw[hT1]; rfl
 ·intros; rw[hT1]; rfl
 ·intros; rw[hT1]; rfl
 ·exact⟨(qac rfl),(qac rfl),⟨qb1,⟨qb1,qb1,(qac rfl),qb1⟩⟩,qb1⟩
 ·intro a g hgs; rw[hT1]; exact⟨⟨qb1,qb1,qb1,qb1,qb1⟩,⟨qb1,qb1,qb1,qb1⟩,qb1,(hgs _),qb1⟩
 ·intro x L1 hx;cases x with
  | normal=>obtain⟨a,g,hgk,hgs,_,rfl⟩:=hx; exact⟨by rw[hT1]; rfl,by rw[hT1]; exact⟨⟨qb1,qb1,qb1,qb1,qb1⟩,⟨qb1,qb1,qb1,qb1⟩,qb1,(hgs _),qb1⟩⟩
  | ret=>exact⟨hx.1,hx.2.1⟩
  | exit id=>exact hx.elim
  | panic d=>exact hx.elim
 ·exact j1
 ·rintro i ⟨b1_0,b1_1,b1_2⟩ y10 args G lpF g hy hi1 ⟨rfl,gB,hgB,rfl⟩ hkin hgk;rw[zes hy]at hi1;simp only[zaK]at hi1;refine⟨_,_,_,rfl,.box (by decide) (by decide) rfl rfl rfl rfl,?_⟩;rw[congrFun (congrFun hT1 (b1_0,b1_1,b1_2)) g];refine zaa ?_;try simp only[rnA,Nat.reduceEqDiff,Nat.reduceLT,Nat.reduceAdd,Nat.reduceLeDiff,zaw]
  exact⟨T1 (y10.1.product.vars,y10.1.product.cards,y10.1.product.w) g,by rw[hT1]; rfl,by rw[hT1]; exact zaV.mK [.k,.k,.k,.k,.k,.k,.k] rfl rfl qb1 ⟨MB.cs ⟨qb1,qb1,qb1,qb1,qb1⟩,⟨MB.cs ⟨qb1,qb1,qb1,qb1⟩,⟨MB.same trivial,⟨MB.same (hgk _),⟨.same (hkin _ (by decide)),⟨MB.same trivial,⟨MB.same (hgB _),qb1⟩⟩⟩⟩⟩⟩⟩,(y10.1.product.vars,y10.1.product.cards,y10.1.product.w),hi1,rfl⟩
 ·rintro⟨b1_0,b1_1,b1_2⟩ i hi1;rw[qbi]at hi1;simp only[zaK]at hi1;exact⟨(b1_0,b1_1,b1_2),_,zkf _ _ _,znf _ _ _,(qaa hi1).symm,rfl⟩
 ·rintro _ ⟨⟨b1_0,b1_1,b1_2⟩,g,hgk,hgs,rfl,rfl⟩;dsimp only at h;rw[congrFun (congrFun hT1 (b1_0,b1_1,b1_2)) g];refine zaa ?_;obtain⟨r11,g12,h⟩:=bind_some h;try simp only[rnA,Nat.reduceEqDiff,Nat.reduceLT,Nat.reduceAdd,Nat.reduceLeDiff,zaw]
  refine EvL.fn (zib g12) rfl rfl (.cons (.za8 (.cons (zad _ _ (fun h=>nomatch h)) (.cons (zad _ _ (fun h=>nomatch h)) (.cons (zad _ _ (fun h=>nomatch h)) .nil)))) .nil) ?_;try simp only[rnA,Nat.reduceEqDiff,Nat.reduceLT]
  cases c13:(r11.2 == 0)
  ·rw[c13,cond_false]at h;try simp only[rnA,Nat.reduceEqDiff,Nat.reduceLT]
   replace h:=qaa h; subst h;exact za0.ret rfl (Snp.zb7 (.cons (zah zaq) (.cons (.lit _) .nil)))
  rw[c13,cond_true]at h;try simp only[rnA,Nat.reduceEqDiff,Nat.reduceLT]
  cases c14:(r11.1 == 0)
  ·rw[c14,cond_false]at h;obtain⟨x15,g16,h⟩:=bind_some h;obtain⟨y17,g18,h⟩:=bind_some h;try simp only[rnA,Nat.reduceEqDiff,Nat.reduceLT,Nat.reduceAdd,Nat.reduceLeDiff,zat,zak (n:=3) (e:=zac) rfl g16,(zau g18).1.1,(zau g18).1.2,qa1,(show List.replicate (Int.toNat x15.card) [(dI 0),(dI 0)]=y17.map (zaq.c true)from zbD g18 (zaq.c true)),zaN g18]
   obtain⟨o5,j5,h⟩:=bind_some h;obtain⟨T5,hT5⟩:=mkT fun a:(List S_api_Q)=>⟨91,[(13,(.sl 5 0 2 (Int.toNat x15.card) (some (Int.toNat x15.card)) (Int.toNat x15.card)))],[.gone,.gone,.gone,.gone,.gone,.els 2 (a.map (zaq.c true))]⟩
   refine EvL.jn T5 (fun a=>o5=.go a∧a.length=(Int.toNat x15.card)) ?_ ?_
   ·refine zaa ?_;simp only[rnA];obtain⟨T8,hT8⟩:=mkT fun a:(Int×(List S_api_Q))=>⟨91,[(3,(.ptr 0 0)),(10,(.ptr 1 0)),(12,(dI r11.1)),(13,(.sl 5 0 2 (Int.toNat x15.card) (some (Int.toNat x15.card)) (Int.toNat x15.card))),(54,(dI (((Int.toNat x15.card):Nat):Int))),(55,(dI a.1))],[.cells [(dI p0.net.grain),(fzE false zac p0.net.nodes),(fzE false (eI .i64) p0.known),(dI p0.node)],.cells [(fzE true (eI .i64) b1_0),(fzE true (eI .i64) b1_1),(fzE true (eI .i64) b1_2)],.gone,.gone,.gone,.els 2 (a.2.map (zaq.c true))]⟩
    refine EvL.rounds (α:=(Int×(List S_api_Q))) T8 (fun n a=>za1 N x15 p0 r11 b1_2 n a.1 a.2=some o5∧a.2.length=(Int.toNat x15.card)) ((((Int.toNat x15.card):Nat):Int) - 0+2:Int).toNat (0,y17) (by rw[hT8]; exact wm0 [.k,.k,.d,.d,.d,.k] ⟨MB.cs ⟨qb1,qb1,qb1,qb1,qb1⟩,⟨MB.cs ⟨qb1,qb1,qb1,qb1⟩,⟨rfl,⟨rfl,⟨rfl,⟨MB.es zaq true y17,qb1⟩⟩⟩⟩⟩⟩) ⟨j5,zaN g18⟩ (fun _ h=>nomatch (show(none:Option (Out (List S_api_Q) ((List S_api_Q)×Int)))=some o5 from h.1)) ?_;rintro n ⟨v55,l5⟩ ⟨j5,el5⟩;simp only[za1]at j5;rw[congrFun hT8 (v55,l5)];refine zaa ?_;try simp only[rnA,Nat.reduceEqDiff,Nat.reduceLT]
    cases c19:(decide (v55<(((Int.toNat x15.card):Nat):Int)))
    ·rw[c19,cond_false]at j5;try simp only[rnA]
     replace j5:=qaa j5; subst j5;exact⟨_,⟨rfl,el5⟩,by rw[hT5]; exact wm0 [.d,.d,.d,.d,.d,.k] ⟨rfl,⟨rfl,⟨rfl,⟨rfl,⟨rfl,⟨MB.es zaq true l5,qb1⟩⟩⟩⟩⟩⟩⟩
    rw[c19,cond_true]at j5;obtain⟨x20,g21,j5⟩:=bind_some j5;try simp only[rnA,Nat.reduceEqDiff,Nat.reduceLT,zak (n:=1) (e:=(eI .i64)) rfl g21]
    obtain⟨o9,j9,j5⟩:=bind_some j5;obtain⟨T9,hT9⟩:=mkT fun a:Int=>⟨91,[(3,(.ptr 0 0)),(10,(.ptr 1 0)),(12,(dI r11.1)),(13,(.sl 5 0 2 (Int.toNat x15.card) (some (Int.toNat x15.card)) (Int.toNat x15.card))),(14,(dI v55)),(15,(dI a)),(54,(dI (((Int.toNat x15.card):Nat):Int))),(55,(dI v55))],[.cells [(dI p0.net.grain),(fzE false zac p0.net.nodes),(fzE false (eI .i64) p0.known),(dI p0.node)],.cells [(fzE true (eI .i64) b1_0),(fzE true (eI .i64) b1_1),(fzE true (eI .i64) b1_2)],.gone,.gone,.gone,.els 2 (l5.map (zaq.c true))]⟩
    refine EvL.jn T9 (fun a=>a=o9) ?_ ?_
    ·refine zaa ?_;try simp only[rnA,Nat.reduceEqDiff]
     cases c22:(x20 == v55)
     ·rw[c22,cond_false]at j9;try simp only[rnA,Nat.reduceEqDiff,Nat.reduceLT]
      cases c23:(decide (x20<0))
      ·rw[c23,cond_false]at j9;try simp only[rnA]
       replace j9:=qaa j9; subst j9;exact lfj hT9 rfl (wm0 [.k,.k,.d,.d,.d,.k] ⟨MB.cs ⟨qb1,qb1,qb1,qb1,qb1⟩,⟨MB.cs ⟨qb1,qb1,qb1,qb1⟩,⟨rfl,⟨rfl,⟨rfl,⟨MB.es zaq true l5,qb1⟩⟩⟩⟩⟩⟩)
      rw[c23,cond_true]at j9;obtain⟨x24,g25,j9⟩:=bind_some j9;try simp only[rnA,Nat.reduceEqDiff,Nat.reduceLT,zak (n:=1) (e:=(eI .i64)) rfl g25]
      replace j9:=qaa j9; subst j9;exact lfj hT9 rfl (wm0 [.k,.k,.d,.d,.d,.k] ⟨MB.cs ⟨qb1,qb1,qb1,qb1,qb1⟩,⟨MB.cs ⟨qb1,qb1,qb1,qb1⟩,⟨rfl,⟨rfl,⟨rfl,⟨MB.es zaq true l5,qb1⟩⟩⟩⟩⟩⟩)
     rw[c22,cond_true]at j9;try simp only[rnA,Nat.reduceEqDiff,Nat.reduceLT]
     replace j9:=qaa j9; subst j9;exact lfj hT9 rfl (wm0 [.k,.k,.d,.d,.d,.k] ⟨MB.cs ⟨qb1,qb1,qb1,qb1,qb1⟩,⟨MB.cs ⟨qb1,qb1,qb1,qb1⟩,⟨rfl,⟨rfl,⟨rfl,⟨MB.es zaq true l5,qb1⟩⟩⟩⟩⟩⟩)
    rintro v15 rfl;rw[congrFun hT9 v15];refine zaa ?_;obtain⟨r26,g27,j5⟩:=bind_some j5;try simp only[rnA,Nat.reduceEqDiff,Nat.reduceLT]
    refine EvL.fn (zk1 g27) rfl rfl (.cons (.lit _) (.cons (.lit _) .nil)) ?_;obtain⟨x28,g29,j5⟩:=bind_some j5;obtain⟨y30,g31,j5⟩:=bind_some j5;try simp only[rnA,Nat.reduceEqDiff,Nat.reduceLT,Nat.reduceAdd,Nat.reduceLeDiff,zaH,el5,za3 g29,(show v55<(((Int.toNat x15.card):Nat):Int)from el5 ▸ zaY g29),zaB g29 (zaq.c true),(show(l5.map (zaq.c true)).set v55.toNat [(dI r26.1.n),(dI r26.1.d)]=y30.map (zaq.c true)from za2 g31 (zaq.c true))]
    cases c32:(r26.2 == 0)
    ·rw[c32,cond_false]at j5;try simp only[rnA,Nat.reduceEqDiff,Nat.reduceLT]
     replace j5:=qaa j5; subst j5;dsimp only at h;replace h:=qaa h; subst h;exact za0.ret rfl (Snp.zb7 (.cons (zah zaq) (.cons (.lit _) .nil)))
    rw[c32,cond_true]at j5;try simp only[rnA,Nat.reduceEqDiff,Nat.reduceLT]
    exact⟨((w64 (v55+1)),y30),⟨j5,(zaR g31).trans el5⟩,by rw[hT8]; exact wm0 [.k,.k,.d,.d,.d,.k] ⟨MB.cs ⟨qb1,qb1,qb1,qb1,qb1⟩,⟨MB.cs ⟨qb1,qb1,qb1,qb1⟩,⟨rfl,⟨rfl,⟨rfl,⟨MB.es zaq true y30,qb1⟩⟩⟩⟩⟩⟩⟩
   rintro l5 ⟨rfl,el5⟩;dsimp only at h;rw[congrFun hT5 l5];refine zaa ?_;try simp only[rnA,Nat.reduceEqDiff,Nat.reduceLT]
   replace h:=qaa h; subst h;exact za0.ret rfl (Snp.zb7 (.cons (zaj (e:=zaq) (t:=true) rfl (.inl rfl) (el5).symm (el5).symm (fun k h=>by cases h; exact qae _) (fun _=>rfl)) (.cons (.lit _) .nil)))
  rw[c14,cond_true]at h;try simp only[rnA,Nat.reduceLT]
  replace h:=qaa h; subst h;exact za0.ret rfl (Snp.zb7 (.cons (zah zaq) (.cons (.lit _) .nil)))
 ·intro id L1 hx; exact hx.elim
 intro L1 hx; exact hx.2.2
def zai(N:Nat)(p0:S_api_Net)(p1:(List Int))(p2:Int)(p3:(List Int)):Option ((List S_api_Q)×Int):=
(zb6 p0 p1 p2).bind fun r1=>
bif (r1.2 == 0)then(
(zaT r1.1 p3).bind fun r4=>
bif r4 then(
(znt .u64 1 (r1.1.net.nodes.length:Int)).bind fun q7=>
(zaM N r1.1 p3 (IntKind.u64.wrap (q7 - 1))).bind fun r9=>
some (r9.1,r9.2))
else(
some ([],2)))
else(
some ([],r1.2))
theorem zax{N:Nat}{p0:S_api_Net}{p1:(List Int)}{p2:Int}{p3:(List Int)}{r:((List S_api_Q)×Int)}(h:zai N p0 p1 p2 p3=some r):Lx.Fn mC 42 [(.agg [(dI p0.grain),(fzE false zac p0.nodes)]),(fzE false (eI .i64) p1),(dI p2),(fzE false (eI .i64) p3)] (.tup [(fzE true zaq r.1),(dI r.2)]):=by
 refine fnO (by conv=>lhs; cbv) ?_;unfold zai at h;refine zaa ?_;obtain⟨r1,g2,h⟩:=bind_some h;try simp only[rnA,Nat.reduceEqDiff,Nat.reduceLT,Nat.reduceAdd,Nat.reduceLeDiff,reduceCtorEq]
 refine EvL.fnS (zcZ g2) rfl rfl (.cons (Mzs.agg (.cons (.lit _) (.cons (zal _ _ (fun h=>by cases h<;>contradiction)) .nil))) (.cons (zal _ _ (fun h=>by cases h<;>contradiction)) (.cons (.lit _) .nil))) ⟨⟨qb1,(zae _ _),qb1⟩,(zae _ _),qb1,qb1⟩ ⟨⟨qb1,(zae _ _),(zae _ _),qb1,qb1⟩,qb1,qb1⟩ ?_;try simp only[rnA,Nat.reduceEqDiff,Nat.reduceLT,Nat.reduceAdd,Nat.reduceLeDiff,reduceCtorEq]
 cases c3:(r1.2 == 0)
 ·rw[c3,cond_false]at h;try simp only[rnA,Nat.reduceEqDiff,Nat.reduceLT,reduceCtorEq]
  replace h:=qaa h; subst h;exact za0.ret rfl (Snp.zb7 (.cons (zah zaq) (.cons (.lit _) .nil)))
 rw[c3,cond_true]at h;obtain⟨r4,g5,h⟩:=bind_some h;try simp only[rnA,Nat.reduceEqDiff,Nat.reduceLT,Nat.reduceAdd,Nat.reduceLeDiff,reduceCtorEq]
 refine EvL.fn (zbK g5) rfl rfl (.cons (.za8 (.cons (.lit _) (.cons (zad _ _ (fun h=>nomatch h)) (.cons (zad _ _ (fun h=>nomatch h)) (.cons (.lit _) .nil))))) (.cons (zad _ _ (fun h=>nomatch h)) .nil)) ?_;try simp only[rnA,Nat.reduceEqDiff,Nat.reduceLT,reduceCtorEq]
 cases c6:r4
 ·rw[c6,cond_false]at h;try simp only[rnA,Nat.reduceLT]
  replace h:=qaa h; subst h;exact za0.ret rfl (Snp.zb7 (.cons (zah zaq) (.cons (.lit _) .nil)))
 rw[c6,cond_true]at h;obtain⟨q7,g8,h⟩:=bind_some h;obtain⟨r9,g10,h⟩:=bind_some h;try simp only[rnA,Nat.reduceEqDiff,Nat.reduceLT,Nat.reduceAdd,Nat.reduceLeDiff,reduceCtorEq,zam,(za5 g8).1,(za5 g8).2]
 refine EvL.fn (zbE g10) rfl rfl (.cons (.za8 (.cons (.lit _) (.cons (zad _ _ (fun h=>nomatch h)) (.cons (zad _ _ (fun h=>nomatch h)) (.cons (.lit _) .nil))))) (.cons (zad _ _ (fun h=>nomatch h)) (.cons (.lit _) .nil))) ?_;try simp only[rnA,Nat.reduceEqDiff,Nat.reduceLT,reduceCtorEq]
 replace h:=qaa h; subst h;exact za0.ret rfl (Snp.zb7 (.cons (zad _ _ (fun _=>rfl)) (.cons (.lit _) .nil)))
end Go.Dc
