/-
 What r01_compare computes. Conditions: none.
-/
import Derived.Test.YtbjogdohfhdaiaaEkJ2
set_option linter.unusedSimpArgs false
set_option linter.unusedVariables false
set_option maxRecDepth 100000
set_option maxHeartbeats 4000000
set_option maxHeartbeats 40000000
namespace Go.Dc
open Go Go.Mx Go.Lx Go.Proofs
def zdJ(p0:(List Int))(p1:(List Int)):Nat→Int→Option (Out Unit Int)
 | 0,_=>none
 | n+1,v5=>(
bif (decide (0≤v5))then(
(za6 p0 v5).bind fun x4=>
(za6 p1 v5).bind fun x6=>
bif (x4 == x6)then(
zdJ p0 p1 n (w64 (v5 - 1)))
else(
bif (decide (x4<x6))then(
some (.ret (-1)))
else(
some (.ret 1))))
else(
some (.go ())))
def zcg(p0:(List Int))(p1:(List Int)):Option Int:=
bif ((p0.length:Int)==(p1.length:Int))then(
((zdJ p0 p1 ((w64 ((p0.length:Int) - 1)) - 0+2:Int).toNat (w64 ((p0.length:Int) - 1)):Option (Out Unit Int))).bind fun o=>match o with
| .go _=>(
some 0)
| .ret r=>some r)
else(
bif (decide ((p0.length:Int)<(p1.length:Int)))then(
some (-1))
else(
some 1))
theorem zcO{p0:(List Int)}{p1:(List Int)}{r:Int}(h:zcg p0 p1=some r):Lx.Fn mC 180 [(fzE false (eI .i64) p0),(fzE false (eI .i64) p1)] (dI r):=by
 refine fnO (by conv=>lhs; cbv) ?_;unfold zcg at h;refine zaa ?_;try simp only[rnA,Nat.reduceEqDiff,Nat.reduceLT,Nat.reduceAdd,reduceCtorEq,zam]
 cases c1:((p0.length:Int)==(p1.length:Int))
 ·rw[c1,cond_false]at h;try simp only[rnA,Nat.reduceEqDiff,Nat.reduceLT,reduceCtorEq,zam]
  cases c2:(decide ((p0.length:Int)<(p1.length:Int)))
  ·rw[c2,cond_false]at h;try simp only[rnA,Nat.reduceLT]
   replace h:=qaa h; subst h;exact za0.ret rfl (.lit _)
  rw[c2,cond_true]at h;try simp only[rnA,Nat.reduceLT]
  replace h:=qaa h; subst h;exact za0.ret rfl (.lit _)
 rw[c1,cond_true]at h;try simp only[rnA,Nat.reduceEqDiff,Nat.reduceLT,reduceCtorEq,zam]
 obtain⟨o1,j1,h⟩:=bind_some h;obtain⟨T1,hT1⟩:=mkT fun a:Unit=>⟨41,[],[]⟩
 refine EvL.jn T1 (fun a=>o1=.go a) ?_ ?_
 ·refine zaa ?_;simp only[rnA];obtain⟨T2,hT2⟩:=mkT fun a:Int=>⟨41,[(0,(fzE false (eI .i64) p0)),(1,(fzE false (eI .i64) p1)),(5,(dI a))],[]⟩
  refine EvL.rounds (α:=Int) T2 (fun n a=>zdJ p0 p1 n a=some o1) ((w64 ((p0.length:Int) - 1)) - 0+2:Int).toNat (w64 ((p0.length:Int) - 1)) (by rw[hT2]; exact wm0 [] (by exact trivial)) j1 (fun _ h=>nomatch (show(none:Option (Out Unit Int))=some o1 from h)) ?_;rintro n v5 j1;simp only[zdJ]at j1;rw[congrFun hT2 v5];refine zaa ?_;try simp only[rnA,Nat.reduceEqDiff,Nat.reduceLT,reduceCtorEq]
  cases c3:(decide (0≤v5))
  ·rw[c3,cond_false]at j1;try simp only[rnA]
   replace j1:=qaa j1; subst j1;exact lfj hT1 rfl (wm0 [] (by exact trivial))
  rw[c3,cond_true]at j1;obtain⟨x4,g5,j1⟩:=bind_some j1;obtain⟨x6,g7,j1⟩:=bind_some j1;try simp only[rnA,Nat.reduceEqDiff,Nat.reduceLT,reduceCtorEq,zak (n:=1) (e:=(eI .i64)) rfl g5,zak (n:=1) (e:=(eI .i64)) rfl g7]
  cases c8:(x4 == x6)
  ·rw[c8,cond_false]at j1;try simp only[rnA,Nat.reduceEqDiff,Nat.reduceLT,reduceCtorEq,zak (n:=1) (e:=(eI .i64)) rfl g5,zak (n:=1) (e:=(eI .i64)) rfl g7]
   cases c9:(decide (x4<x6))
   ·rw[c9,cond_false]at j1;try simp only[rnA,Nat.reduceLT]
    replace j1:=qaa j1; subst j1;dsimp only at h;replace h:=qaa h; subst h;exact za0.ret rfl (.lit _)
   rw[c9,cond_true]at j1;try simp only[rnA,Nat.reduceLT]
   replace j1:=qaa j1; subst j1;dsimp only at h;replace h:=qaa h; subst h;exact za0.ret rfl (.lit _)
  rw[c8,cond_true]at j1;try simp only[rnA,Nat.reduceEqDiff,Nat.reduceLT,reduceCtorEq]
  exact⟨(w64 (v5 - 1)),j1,by rw[hT2]; exact wm0 [] (by exact trivial)⟩
 rintro⟨⟩ rfl;dsimp only at h;rw[congrFun hT1 ()];refine zaa ?_;try simp only[rnA,Nat.reduceLT]
 replace h:=qaa h; subst h;exact za0.ret rfl (.lit _)
def zew(p1:(List Int))(v6:Int)(p0:(List Int)):Nat→Int→Int→(List Int)→Option (List Int)
 | 0,_,_,_=>none
 | n+1,v7,v8,l0'=>(
((bif (decide (v8<(p1.length:Int)))then(
some true)
else(
some (decide (0<v7))):Option Bool)).bind fun v28=>
bif v28 then(
(za6 l0' (w64 (v6+v8))).bind fun x6=>
((bif (decide (v8<(p1.length:Int)))then(
(za6 p0 v6).bind fun x9=>
(za6 p1 v8).bind fun x11=>
some (w64 ((w64 (v7+x6))+(w64 (x9 * x11)))))
else(
some (w64 (v7+x6))):Option Int)).bind fun v7'=>
(za6 l0' (w64 (v6+v8))).bind fun x13=>
(zgN l0' (w64 (v6+v8)) (v7'.tmod 10000)).bind fun y15=>
zew p1 v6 p0 n (w64 (v7'.tdiv 10000)) (w64 (v8+1)) y15)
else(
some l0'))
def zeC(N:Nat)(p0:(List Int))(p1:(List Int)):Nat→Int→(List Int)→Option (List Int)
 | 0,_,_=>none
 | n+1,v6,l0=>(
bif (decide (v6<(p0.length:Int)))then(
((zew p1 v6 p0 N 0 0 l0:Option (List Int))).bind fun l0'=>
zeC N p0 p1 n (w64 (v6+1)) l0')
else(
some l0))
def zbW(N:Nat)(p0:(List Int))(p1:(List Int)):Option (List Int):=
(zeO 8 (w64 ((p0.length:Int)+(p1.length:Int))) 0).bind fun y1=>
((zeC N p0 p1 ((p0.length:Int) - 0+2:Int).toNat 0 y1:Option (List Int))).bind fun l0=>
(zbP N l0).bind fun r17=>
some r17
theorem zcb{N:Nat}{p0:(List Int)}{p1:(List Int)}{r:(List Int)}(h:zbW N p0 p1=some r):Lx.FnA mC 181 [(fzE false (eI .i64) p0),(fzE false (eI .i64) p1)] (fzE false (eI .i64) r):=by
 refine zqN (by conv=>lhs; cbv) ?_;unfold zbW at h;refine zaa ?_;obtain⟨y1,g2,h⟩:=bind_some h;try simp only[rnA,Nat.reduceEqDiff,Nat.reduceLT,Nat.reduceAdd,reduceCtorEq,zam,(zau g2).1.1,(zau g2).1.2,qa1,(show List.replicate (Int.toNat (w64 ((p0.length:Int)+(p1.length:Int)))) [(dI 0)]=y1.map ((eI .i64).c true)from zbD g2 ((eI .i64).c true))]
 obtain⟨o43,j43,h⟩:=bind_some h;obtain⟨T43,hT43⟩:=mkT fun a:(List Int)=>⟨65,[(5,(.sl 0 0 1 (Int.toNat (w64 ((p0.length:Int)+(p1.length:Int)))) (some (Int.toNat (w64 ((p0.length:Int)+(p1.length:Int))))) (Int.toNat (w64 ((p0.length:Int)+(p1.length:Int))))))],[.els 1 (a.map ((eI .i64).c true))]⟩
 refine EvL.jn T43 (fun a=>a=o43∧a.length=(Int.toNat (w64 ((p0.length:Int)+(p1.length:Int))))) ?_ ?_
 ·refine zaa ?_;simp only[rnA];obtain⟨T72,hT72⟩:=mkT fun a:(Int×(List Int))=>⟨65,[(0,(fzE false (eI .i64) p0)),(1,(fzE false (eI .i64) p1)),(5,(.sl 0 0 1 (Int.toNat (w64 ((p0.length:Int)+(p1.length:Int)))) (some (Int.toNat (w64 ((p0.length:Int)+(p1.length:Int))))) (Int.toNat (w64 ((p0.length:Int)+(p1.length:Int)))))),(6,(dI a.1))],[.els 1 (a.2.map ((eI .i64).c true))]⟩
  refine EvL.rounds (α:=(Int×(List Int))) T72 (fun n a=>zeC N p0 p1 n a.1 a.2=some o43∧a.2.length=(Int.toNat (w64 ((p0.length:Int)+(p1.length:Int))))) ((p0.length:Int) - 0+2:Int).toNat (0,y1) (by rw[hT72]; exact wm0 [.k] ⟨MB.es (eI .i64) true y1,qb1⟩) ⟨j43,zaN g2⟩ (fun _ h=>nomatch (show(none:Option (List Int))=some o43 from h.1)) ?_;rintro n ⟨v6,l0⟩ ⟨j43,el0⟩;simp only[zeC]at j43;rw[congrFun hT72 (v6,l0)];refine zaa ?_;try simp only[rnA,Nat.reduceEqDiff,Nat.reduceLT,reduceCtorEq,zam]
  cases c3:(decide (v6<(p0.length:Int)))
  ·rw[c3,cond_false]at j43;try simp only[rnA]
   replace j43:=qaa j43; subst j43;exact⟨_,⟨rfl,el0⟩,by rw[hT43]; exact wm0 [.k] ⟨MB.es (eI .i64) true l0,qb1⟩⟩
  rw[c3,cond_true]at j43;try simp only[rnA,Nat.reduceLT]
  obtain⟨o79,j79,j43⟩:=bind_some j43;obtain⟨T79,hT79⟩:=mkT fun a:(List Int)=>⟨65,[(0,(fzE false (eI .i64) p0)),(1,(fzE false (eI .i64) p1)),(5,(.sl 0 0 1 (Int.toNat (w64 ((p0.length:Int)+(p1.length:Int)))) (some (Int.toNat (w64 ((p0.length:Int)+(p1.length:Int))))) (Int.toNat (w64 ((p0.length:Int)+(p1.length:Int)))))),(6,(dI v6))],[.els 1 (a.map ((eI .i64).c true))]⟩
  refine EvL.jn T79 (fun a=>a=o79∧a.length=(Int.toNat (w64 ((p0.length:Int)+(p1.length:Int))))) ?_ ?_
  ·refine zaa ?_;simp only[rnA];obtain⟨T84,hT84⟩:=mkT fun a:(Int×Int×(List Int))=>⟨65,[(0,(fzE false (eI .i64) p0)),(1,(fzE false (eI .i64) p1)),(5,(.sl 0 0 1 (Int.toNat (w64 ((p0.length:Int)+(p1.length:Int)))) (some (Int.toNat (w64 ((p0.length:Int)+(p1.length:Int))))) (Int.toNat (w64 ((p0.length:Int)+(p1.length:Int)))))),(6,(dI v6)),(7,(dI a.1)),(8,(dI a.2.1))],[.els 1 (a.2.2.map ((eI .i64).c true))]⟩
   refine EvL.rounds (α:=(Int×Int×(List Int))) T84 (fun n a=>zew p1 v6 p0 n a.1 a.2.1 a.2.2=some o79∧a.2.2.length=(Int.toNat (w64 ((p0.length:Int)+(p1.length:Int))))) N (0,0,l0) (by rw[hT84]; exact wm0 [.k] ⟨MB.es (eI .i64) true l0,qb1⟩) ⟨j79,el0⟩ (fun _ h=>nomatch (show(none:Option (List Int))=some o79 from h.1)) ?_;rintro n ⟨v7,v8,l0'⟩ ⟨j79,el0'⟩;simp only[zew]at j79;rw[congrFun hT84 (v7,v8,l0')];refine zaa ?_;try simp only[rnA]
   obtain⟨o85,j85,j79⟩:=bind_some j79;obtain⟨T85,hT85⟩:=mkT fun a:Bool=>⟨65,[(0,(fzE false (eI .i64) p0)),(1,(fzE false (eI .i64) p1)),(5,(.sl 0 0 1 (Int.toNat (w64 ((p0.length:Int)+(p1.length:Int)))) (some (Int.toNat (w64 ((p0.length:Int)+(p1.length:Int))))) (Int.toNat (w64 ((p0.length:Int)+(p1.length:Int)))))),(6,(dI v6)),(7,(dI v7)),(8,(dI v8)),(28,(dB a))],[.els 1 (l0'.map ((eI .i64).c true))]⟩
   refine EvL.jn T85 (fun a=>a=o85) ?_ ?_
   ·refine zaa ?_;try simp only[rnA,Nat.reduceEqDiff,Nat.reduceLT,reduceCtorEq,zam]
    cases c4:(decide (v8<(p1.length:Int)))
    ·rw[c4,cond_false]at j85;try simp only[rnA,Nat.reduceEqDiff,Nat.reduceLT,reduceCtorEq]
     replace j85:=qaa j85; subst j85;exact lfj hT85 rfl (wm0 [.k] ⟨MB.es (eI .i64) true l0',qb1⟩)
    rw[c4,cond_true]at j85;try simp only[rnA,Nat.reduceEqDiff,Nat.reduceLT,reduceCtorEq]
    replace j85:=qaa j85; subst j85;exact lfj hT85 rfl (wm0 [.k] ⟨MB.es (eI .i64) true l0',qb1⟩)
   rintro v28 rfl;rw[congrFun hT85 v28];refine zaa ?_;try simp only[rnA,Nat.reduceEqDiff,reduceCtorEq]
   cases c5:v28
   ·rw[c5,cond_false]at j79;try simp only[rnA,Nat.reduceEqDiff,Nat.reduceLT,reduceCtorEq]
    replace j79:=qaa j79; subst j79;exact⟨_,⟨rfl,el0'⟩,by rw[hT79]; exact wm0 [.k] ⟨MB.es (eI .i64) true l0',qb1⟩⟩
   rw[c5,cond_true]at j79;obtain⟨x6,g7,j79⟩:=bind_some j79;try simp only[rnA,Nat.reduceEqDiff,Nat.reduceLT,reduceCtorEq,el0',za3 g7,(show(w64 (v6+v8))<(((Int.toNat (w64 ((p0.length:Int)+(p1.length:Int)))):Nat):Int)from el0' ▸ zaY g7),zaB g7 ((eI .i64).c true),zam]
   obtain⟨o86,j86,j79⟩:=bind_some j79;obtain⟨T86,hT86⟩:=mkT fun a:Int=>⟨65,[(0,(fzE false (eI .i64) p0)),(1,(fzE false (eI .i64) p1)),(5,(.sl 0 0 1 (Int.toNat (w64 ((p0.length:Int)+(p1.length:Int)))) (some (Int.toNat (w64 ((p0.length:Int)+(p1.length:Int))))) (Int.toNat (w64 ((p0.length:Int)+(p1.length:Int)))))),(6,(dI v6)),(7,(dI a)),(8,(dI v8))],[.els 1 (l0'.map ((eI .i64).c true))]⟩
   refine EvL.jn T86 (fun a=>a=o86) ?_ ?_
   ·refine zaa ?_;try simp only[rnA,Nat.reduceEqDiff,reduceCtorEq]
    cases c8:(decide (v8<(p1.length:Int)))
    ·rw[c8,cond_false]at j86;try simp only[rnA]
     replace j86:=qaa j86; subst j86;exact lfj hT86 rfl (wm0 [.k] ⟨MB.es (eI .i64) true l0',qb1⟩)
    rw[c8,cond_true]at j86;obtain⟨x9,g10,j86⟩:=bind_some j86;obtain⟨x11,g12,j86⟩:=bind_some j86;try simp only[rnA,Nat.reduceEqDiff,Nat.reduceLT,reduceCtorEq,zak (n:=1) (e:=(eI .i64)) rfl g10,zak (n:=1) (e:=(eI .i64)) rfl g12]
    replace j86:=qaa j86; subst j86;exact lfj hT86 rfl (wm0 [.k] ⟨MB.es (eI .i64) true l0',qb1⟩)
   rintro v7' rfl;rw[congrFun hT86 v7'];refine zaa ?_;obtain⟨x13,g14,j79⟩:=bind_some j79;obtain⟨y15,g16,j79⟩:=bind_some j79;try simp only[rnA,Nat.reduceEqDiff,Nat.reduceLT,Nat.reduceLeDiff,Int.reduceBEq,reduceCtorEq,el0',za3 g14,(show(w64 (v6+v8))<(((Int.toNat (w64 ((p0.length:Int)+(p1.length:Int)))):Nat):Int)from el0' ▸ zaY g14),zaB g14 ((eI .i64).c true),(show(l0'.map ((eI .i64).c true)).set (w64 (v6+v8)).toNat [(dI (v7'.tmod 10000))]=y15.map ((eI .i64).c true)from za2 g16 ((eI .i64).c true))]
   exact⟨((w64 (v7'.tdiv 10000)),(w64 (v8+1)),y15),⟨j79,(zaR g16).trans el0'⟩,by rw[hT84]; exact wm0 [.k] ⟨MB.es (eI .i64) true y15,qb1⟩⟩
  rintro l0' ⟨rfl,el0'⟩;rw[congrFun hT79 l0'];refine zaa ?_;try simp only[rnA,Nat.reduceEqDiff,Nat.reduceLT,reduceCtorEq]
  exact⟨((w64 (v6+1)),l0'),⟨j43,el0'⟩,by rw[hT72]; exact wm0 [.k] ⟨MB.es (eI .i64) true l0',qb1⟩⟩
 rintro l0 ⟨rfl,el0⟩;rw[congrFun hT43 l0];refine zaa ?_;try simp only[rnA,Nat.reduceLT]
 refine EvL.zeH (S':=⟨65,[(63,(fzE true (eI .i64) l0))],[]⟩) (zaV.m0 [.f] rfl (mf rfl (zcM (e:=(eI .i64)) (t:=true) rfl rfl (.inl rfl) (el0).symm (el0).symm (fun k h=>by cases h; exact qae _) (fun h=>by cases h<;>rfl)) trivial) trivial) (zaa ?_);obtain⟨r17,g18,h⟩:=bind_some h;try simp only[rnA]
 refine EvL.fnS (zbM g18) rfl rfl (.cons (zal _ _ (fun h=>by cases h<;>contradiction)) .nil) ⟨(zae _ _),qb1⟩ (zae _ _) ?_;try simp only[rnA,Nat.reduceEqDiff,Nat.reduceLT]
 replace h:=qaa h; subst h;exact zfD.ret rfl (zad _ _ (fun h=>nomatch h))
def zeB(p0:(List Int))(p1:(List Int)):Nat→Int→Int→(List Int)→Option (List Int)
 | 0,_,_,_=>none
 | n+1,v6,v7,l0=>(
bif (decide (v7<(p0.length:Int)))then(
(za6 p0 v7).bind fun x2=>
((bif (decide (v7<(p1.length:Int)))then(
(za6 p1 v7).bind fun x5=>
some (w64 ((w64 (x2 - v6)) - x5)))
else(
some (w64 (x2 - v6))):Option Int)).bind fun v8=>
((bif (decide (v8<0))then(
some (1,(w64 (v8+10000))))
else(
some (0,v8)):Option ((Int×Int)))).bind fun o=>match o with
|(v6',v8')=>(
(ze9 8 l0 [v8']).bind fun y8=>
zeB p0 p1 n v6' (w64 (v7+1)) y8))
else(
some l0))
def zdy(N:Nat)(p0:(List Int))(p1:(List Int)):Option (List Int):=
((zeB p0 p1 ((p0.length:Int) - 0+2:Int).toNat 0 0 []:Option (List Int))).bind fun l0=>
(zbP N l0).bind fun r10=>
some r10
theorem zeu{N:Nat}{p0:(List Int)}{p1:(List Int)}{r:(List Int)}(h:zdy N p0 p1=some r):Lx.FnA mC 182 [(fzE false (eI .i64) p0),(fzE false (eI .i64) p1)] (fzE false (eI .i64) r):=by
 refine zqN (by conv=>lhs; cbv) ?_;unfold zdy at h;refine zaa ?_;try simp only[rnA,Nat.reduceLT,Nat.reduceAdd]
 obtain⟨o9,j9,h⟩:=bind_some h;obtain⟨T9,hT9⟩:=mkT fun a:(List Int)=>⟨41,[(5,(.sl 0 0 1 a.length none a.length))],[.grow 1 (a.map ((eI .i64).c true))]⟩
 refine EvL.jn T9 (fun a=>a=o9) ?_ ?_
 ·refine zaa ?_;simp only[rnA];obtain⟨T16,hT16⟩:=mkT fun a:(Int×Int×(List Int))=>⟨41,[(0,(fzE false (eI .i64) p0)),(1,(fzE false (eI .i64) p1)),(5,(.sl 0 0 1 a.2.2.length none a.2.2.length)),(6,(dI a.1)),(7,(dI a.2.1))],[.grow 1 (a.2.2.map ((eI .i64).c true))]⟩
  refine EvL.zeH (zaV.ghost (n:=1) (k:=5) (by decide) rfl) ?_;refine EvL.rounds (α:=(Int×Int×(List Int))) T16 (fun n a=>zeB p0 p1 n a.1 a.2.1 a.2.2=some o9) ((p0.length:Int) - 0+2:Int).toNat (0,0,[]) (by rw[hT16]; exact wm0 [.k] ⟨MB.gs (eI .i64) true [],qb1⟩) j9 (fun _ h=>nomatch (show(none:Option (List Int))=some o9 from h)) ?_;rintro n ⟨v6,v7,l0⟩ j9;simp only[zeB]at j9;rw[congrFun hT16 (v6,v7,l0)];refine zaa ?_;try simp only[rnA,Nat.reduceEqDiff,Nat.reduceLT,reduceCtorEq,zam]
  cases c1:(decide (v7<(p0.length:Int)))
  ·rw[c1,cond_false]at j9;try simp only[rnA]
   replace j9:=qaa j9; subst j9;exact lfj hT9 rfl (wm0 [.k] ⟨MB.gs (eI .i64) true l0,qb1⟩)
  rw[c1,cond_true]at j9;obtain⟨x2,g3,j9⟩:=bind_some j9;try simp only[rnA,Nat.reduceEqDiff,Nat.reduceLT,reduceCtorEq,zak (n:=1) (e:=(eI .i64)) rfl g3,zam]
  obtain⟨o17,j17,j9⟩:=bind_some j9;obtain⟨T17,hT17⟩:=mkT fun a:Int=>⟨41,[(0,(fzE false (eI .i64) p0)),(1,(fzE false (eI .i64) p1)),(5,(.sl 0 0 1 l0.length none l0.length)),(7,(dI v7)),(8,(dI a))],[.grow 1 (l0.map ((eI .i64).c true))]⟩
  refine EvL.jn T17 (fun a=>a=o17) ?_ ?_
  ·refine zaa ?_;try simp only[rnA,Nat.reduceEqDiff,reduceCtorEq]
   cases c4:(decide (v7<(p1.length:Int)))
   ·rw[c4,cond_false]at j17;try simp only[rnA]
    replace j17:=qaa j17; subst j17;exact lfj hT17 rfl (wm0 [.k] ⟨MB.gs (eI .i64) true l0,qb1⟩)
   rw[c4,cond_true]at j17;obtain⟨x5,g6,j17⟩:=bind_some j17;try simp only[rnA,Nat.reduceEqDiff,Nat.reduceLT,reduceCtorEq,zak (n:=1) (e:=(eI .i64)) rfl g6]
   replace j17:=qaa j17; subst j17;exact lfj hT17 rfl (wm0 [.k] ⟨MB.gs (eI .i64) true l0,qb1⟩)
  rintro v8 rfl;rw[congrFun hT17 v8];refine zaa ?_;try simp only[rnA,Nat.reduceEqDiff,Nat.reduceLT,reduceCtorEq]
  obtain⟨o18,j18,j9⟩:=bind_some j9;obtain⟨T18,hT18⟩:=mkT fun a:(Int×Int)=>⟨41,[(0,(fzE false (eI .i64) p0)),(1,(fzE false (eI .i64) p1)),(5,(.sl 0 0 1 l0.length none l0.length)),(6,(dI a.1)),(7,(dI v7)),(8,(dI a.2))],[.grow 1 (l0.map ((eI .i64).c true))]⟩
  refine EvL.jn T18 (fun a=>a=o18) ?_ ?_
  ·refine zaa ?_;try simp only[rnA,Nat.reduceEqDiff,reduceCtorEq]
   cases c7:(decide (v8<0))
   ·rw[c7,cond_false]at j18;try simp only[rnA]
    replace j18:=qaa j18; subst j18;exact lfj hT18 rfl (wm0 [.k] ⟨MB.gs (eI .i64) true l0,qb1⟩)
   rw[c7,cond_true]at j18;try simp only[rnA,Nat.reduceEqDiff,Nat.reduceLT,reduceCtorEq]
   replace j18:=qaa j18; subst j18;exact lfj hT18 rfl (wm0 [.k] ⟨MB.gs (eI .i64) true l0,qb1⟩)
  rintro⟨v6',v8'⟩ rfl;dsimp only at j9;rw[congrFun hT18 (v6',v8')];refine zaa ?_;obtain⟨y8,g9,j9⟩:=bind_some j9;try simp only[rnA,Nat.reduceEqDiff,Nat.reduceLT,Nat.reduceLeDiff,reduceCtorEq,zcE g9,(show l0.length+1=y8.length from zbC g9),(show l0.map ((eI .i64).c true)++ [[(dI v8')]]=y8.map ((eI .i64).c true)from zcm g9 ((eI .i64).c true))]
  exact⟨(v6',(w64 (v7+1)),y8),j9,by rw[hT16]; exact wm0 [.k] ⟨MB.gs (eI .i64) true y8,qb1⟩⟩
 rintro l0 rfl;rw[congrFun hT9 l0];refine zaa ?_;try simp only[rnA,Nat.reduceLT]
 refine EvL.zeH (S':=⟨41,[(39,(fzE true (eI .i64) l0))],[]⟩) (zaV.m0 [.f] rfl (mf rfl (zcM (e:=(eI .i64)) (t:=true) rfl rfl (.inr rfl) rfl rfl (fun k h=>nomatch h) (fun h=>by cases h<;>rfl)) trivial) trivial) (zaa ?_);obtain⟨r10,g11,h⟩:=bind_some h;try simp only[rnA]
 refine EvL.fnS (zbM g11) rfl rfl (.cons (zal _ _ (fun h=>by cases h<;>contradiction)) .nil) ⟨(zae _ _),qb1⟩ (zae _ _) ?_;try simp only[rnA,Nat.reduceEqDiff,Nat.reduceLT]
 replace h:=qaa h; subst h;exact zfD.ret rfl (zad _ _ (fun h=>nomatch h))
def zd4(p1:(List Int))(r15:(List Int)):Nat→Int→Int→Int→Option (Int×Int)
 | 0,_,_,_=>none
 | n+1,v10,v11,v12=>(
bif (decide ((zjc 0 (w64 ((w64 ((p1.length:Int) - 1)) - 1)))≤v12))then(
((bif (decide (v12<(r15.length:Int)))then(
(za6 r15 v12).bind fun x19=>
some (w64 ((w64 (v11 * 10000))+x19)))
else(
some (w64 (v11 * 10000))):Option Int)).bind fun v11'=>
((bif (decide (v12≤(w64 ((p1.length:Int) - 1))))then(
(za6 p1 v12).bind fun x22=>
some (w64 ((w64 (v10 * 10000))+x22)))
else(
some v10):Option Int)).bind fun v10'=>
zd4 p1 r15 n v10' v11' (w64 (v12 - 1)))
else(
some (v10,v11)))
def zdq(N:Nat)(p1:(List Int))(r15:(List Int)):Nat→Int→Int→Option Int
 | 0,_,_=>none
 | n+1,v13,v14=>(
bif (decide (v13<v14))then(
(zbW N p1 [(w64 ((w64 ((w64 (v13+v14))+1)).tdiv 2))]).bind fun r29=>
(zcg r29 r15).bind fun r31=>
bif (decide (r31≤0))then(
zdq N p1 r15 n (w64 ((w64 ((w64 (v13+v14))+1)).tdiv 2)) v14)
else(
zdq N p1 r15 n v13 (w64 ((w64 ((w64 ((w64 (v13+v14))+1)).tdiv 2)) - 1))))
else(
some v13))
def zd0(p1:(List Int))(r44:(List Int)):Nat→Int→Int→Int→Option (Int×Int)
 | 0,_,_,_=>none
 | n+1,v10,v11,v12=>(
bif (decide ((zjc 0 (w64 ((w64 ((p1.length:Int) - 1)) - 1)))≤v12))then(
((bif (decide (v12<(r44.length:Int)))then(
(za6 r44 v12).bind fun x48=>
some (w64 ((w64 (v11 * 10000))+x48)))
else(
some (w64 (v11 * 10000))):Option Int)).bind fun v11'=>
((bif (decide (v12≤(w64 ((p1.length:Int) - 1))))then(
(za6 p1 v12).bind fun x51=>
some (w64 ((w64 (v10 * 10000))+x51)))
else(
some v10):Option Int)).bind fun v10'=>
zd0 p1 r44 n v10' v11' (w64 (v12 - 1)))
else(
some (v10,v11)))
def zdo(N:Nat)(p1:(List Int))(r44:(List Int)):Nat→Int→Int→Option Int
 | 0,_,_=>none
 | n+1,v13,v14=>(
bif (decide (v13<v14))then(
(zbW N p1 [(w64 ((w64 ((w64 (v13+v14))+1)).tdiv 2))]).bind fun r58=>
(zcg r58 r44).bind fun r60=>
bif (decide (r60≤0))then(
zdo N p1 r44 n (w64 ((w64 ((w64 (v13+v14))+1)).tdiv 2)) v14)
else(
zdo N p1 r44 n v13 (w64 ((w64 ((w64 ((w64 (v13+v14))+1)).tdiv 2)) - 1))))
else(
some v13))
def zdp(N:Nat)(p0:(List Int))(p1:(List Int)):Nat→(List Int)→Int→(List Int)→Option ((List Int)×(List Int))
 | 0,_,_,_=>none
 | n+1,v8,v9,l0=>(
bif (decide (0≤v9))then(
(za6 p0 v9).bind fun x10=>
bif (v8.isEmpty)then(
(zbP N [x10]).bind fun r44=>
((zd0 p1 r44 ((w64 ((w64 ((p1.length:Int) - 1))+1)) - (zjc 0 (w64 ((w64 ((p1.length:Int) - 1)) - 1)))+2:Int).toNat 0 0 (w64 ((w64 ((p1.length:Int) - 1))+1)):Option ((Int×Int)))).bind fun o=>match o with
|(v10,v11)=>(
(zi1 .i64 v11 (w64 (v10+1))).bind fun q53=>
(zi1 .i64 v11 v10).bind fun q55=>
((zdo N p1 r44 (q55 - q53+2:Int).toNat q53 q55:Option Int)).bind fun v13=>
(za6 l0 v9).bind fun x63=>
(zgN l0 v9 v13).bind fun y65=>
(zbP N [v13]).bind fun r67=>
(zbW N p1 r67).bind fun r69=>
(zdy N r44 r69).bind fun r71=>
zdp N p0 p1 n r71 (w64 (v9 - 1)) y65))
else(
(ze9 8 [x10] v8).bind fun y13=>
(zbP N y13).bind fun r15=>
((zd4 p1 r15 ((w64 ((w64 ((p1.length:Int) - 1))+1)) - (zjc 0 (w64 ((w64 ((p1.length:Int) - 1)) - 1)))+2:Int).toNat 0 0 (w64 ((w64 ((p1.length:Int) - 1))+1)):Option ((Int×Int)))).bind fun o=>match o with
|(v10,v11)=>(
(zi1 .i64 v11 (w64 (v10+1))).bind fun q24=>
(zi1 .i64 v11 v10).bind fun q26=>
((zdq N p1 r15 (q26 - q24+2:Int).toNat q24 q26:Option Int)).bind fun v13=>
(za6 l0 v9).bind fun x34=>
(zgN l0 v9 v13).bind fun y36=>
(zbP N [v13]).bind fun r38=>
(zbW N p1 r38).bind fun r40=>
(zdy N r15 r40).bind fun r42=>
zdp N p0 p1 n r42 (w64 (v9 - 1)) y36)))
else(
some (v8,l0)))
def zd3(p1:(List Int))(r81:(List Int)):Nat→Int→Int→Int→Option (Int×Int)
 | 0,_,_,_=>none
 | n+1,v10,v11,v12=>(
bif (decide ((zjc 0 (w64 ((w64 ((p1.length:Int) - 1)) - 1)))≤v12))then(
((bif (decide (v12<(r81.length:Int)))then(
(za6 r81 v12).bind fun x85=>
some (w64 ((w64 (v11 * 10000))+x85)))
else(
some (w64 (v11 * 10000))):Option Int)).bind fun v11'=>
((bif (decide (v12≤(w64 ((p1.length:Int) - 1))))then(
(za6 p1 v12).bind fun x88=>
some (w64 ((w64 (v10 * 10000))+x88)))
else(
some v10):Option Int)).bind fun v10'=>
zd3 p1 r81 n v10' v11' (w64 (v12 - 1)))
else(
some (v10,v11)))
def zdh(N:Nat)(p1:(List Int))(r81:(List Int)):Nat→Int→Int→Option Int
 | 0,_,_=>none
 | n+1,v13,v14=>(
bif (decide (v13<v14))then(
(zbW N p1 [(w64 ((w64 ((w64 (v13+v14))+1)).tdiv 2))]).bind fun r95=>
(zcg r95 r81).bind fun r97=>
bif (decide (r97≤0))then(
zdh N p1 r81 n (w64 ((w64 ((w64 (v13+v14))+1)).tdiv 2)) v14)
else(
zdh N p1 r81 n v13 (w64 ((w64 ((w64 ((w64 (v13+v14))+1)).tdiv 2)) - 1))))
else(
some v13))
def zd5(p1:(List Int))(r110:(List Int)):Nat→Int→Int→Int→Option (Int×Int)
 | 0,_,_,_=>none
 | n+1,v10,v11,v12=>(
bif (decide ((zjc 0 (w64 ((w64 ((p1.length:Int) - 1)) - 1)))≤v12))then(
((bif (decide (v12<(r110.length:Int)))then(
(za6 r110 v12).bind fun x114=>
some (w64 ((w64 (v11 * 10000))+x114)))
else(
some (w64 (v11 * 10000))):Option Int)).bind fun v11'=>
((bif (decide (v12≤(w64 ((p1.length:Int) - 1))))then(
(za6 p1 v12).bind fun x117=>
some (w64 ((w64 (v10 * 10000))+x117)))
else(
some v10):Option Int)).bind fun v10'=>
zd5 p1 r110 n v10' v11' (w64 (v12 - 1)))
else(
some (v10,v11)))
def zcR(N:Nat)(p1:(List Int))(r110:(List Int)):Nat→Int→Int→Option Int
 | 0,_,_=>none
 | n+1,v13,v14=>(
bif (decide (v13<v14))then(
(zbW N p1 [(w64 ((w64 ((w64 (v13+v14))+1)).tdiv 2))]).bind fun r124=>
(zcg r124 r110).bind fun r126=>
bif (decide (r126≤0))then(
zcR N p1 r110 n (w64 ((w64 ((w64 (v13+v14))+1)).tdiv 2)) v14)
else(
zcR N p1 r110 n v13 (w64 ((w64 ((w64 ((w64 (v13+v14))+1)).tdiv 2)) - 1))))
else(
some v13))
def zdi(N:Nat)(p0:(List Int))(p1:(List Int)):Nat→(List Int)→Int→(List Int)→Option ((List Int)×(List Int))
 | 0,_,_,_=>none
 | n+1,v8,v9,l0=>(
bif (decide (0≤v9))then(
(za6 p0 v9).bind fun x76=>
bif (v8.isEmpty)then(
(zbP N [x76]).bind fun r110=>
((zd5 p1 r110 ((w64 ((w64 ((p1.length:Int) - 1))+1)) - (zjc 0 (w64 ((w64 ((p1.length:Int) - 1)) - 1)))+2:Int).toNat 0 0 (w64 ((w64 ((p1.length:Int) - 1))+1)):Option ((Int×Int)))).bind fun o=>match o with
|(v10,v11)=>(
(zi1 .i64 v11 (w64 (v10+1))).bind fun q119=>
(zi1 .i64 v11 v10).bind fun q121=>
((zcR N p1 r110 (q121 - q119+2:Int).toNat q119 q121:Option Int)).bind fun v13=>
(za6 l0 v9).bind fun x129=>
(zgN l0 v9 v13).bind fun y131=>
(zbP N [v13]).bind fun r133=>
(zbW N p1 r133).bind fun r135=>
(zdy N r110 r135).bind fun r137=>
zdi N p0 p1 n r137 (w64 (v9 - 1)) y131))
else(
(ze9 8 [x76] v8).bind fun y79=>
(zbP N y79).bind fun r81=>
((zd3 p1 r81 ((w64 ((w64 ((p1.length:Int) - 1))+1)) - (zjc 0 (w64 ((w64 ((p1.length:Int) - 1)) - 1)))+2:Int).toNat 0 0 (w64 ((w64 ((p1.length:Int) - 1))+1)):Option ((Int×Int)))).bind fun o=>match o with
|(v10,v11)=>(
(zi1 .i64 v11 (w64 (v10+1))).bind fun q90=>
(zi1 .i64 v11 v10).bind fun q92=>
((zdh N p1 r81 (q92 - q90+2:Int).toNat q90 q92:Option Int)).bind fun v13=>
(za6 l0 v9).bind fun x100=>
(zgN l0 v9 v13).bind fun y102=>
(zbP N [v13]).bind fun r104=>
(zbW N p1 r104).bind fun r106=>
(zdy N r81 r106).bind fun r108=>
zdi N p0 p1 n r108 (w64 (v9 - 1)) y102)))
else(
some (v8,l0)))
def zdP(N:Nat)(p0:(List Int))(p1:(List Int)):Option ((List Int)×(List Int)):=
bif (decide ((p0.length:Int)≤(w64 ((p1.length:Int) - 1))))then(
bif (p0.isEmpty)then(
some ([],[]))
else(
(zeY 8 p0).bind fun y142=>
some ([],p0)))
else(
(zeO 8 (w64 ((p0.length:Int) - (w64 ((p1.length:Int) - 1)))) 0).bind fun y2=>
(ziN p0 (w64 ((p0.length:Int) - (w64 ((p1.length:Int) - 1)))) p0.length).bind fun y4=>
bif (y4.isEmpty)then(
((zdi N p0 p1 ((w64 ((((Int.toNat (w64 ((p0.length:Int) - (w64 ((p1.length:Int) - 1))))):Nat):Int) - 1)) - 0+2:Int).toNat [] (w64 ((((Int.toNat (w64 ((p0.length:Int) - (w64 ((p1.length:Int) - 1))))):Nat):Int) - 1)) y2:Option (((List Int)×(List Int))))).bind fun o=>match o with
|(v8,l0)=>(
(zbP N l0).bind fun r139=>
some (r139,v8)))
else(
(zeY 8 y4).bind fun y7=>
((zdp N p0 p1 ((w64 ((((Int.toNat (w64 ((p0.length:Int) - (w64 ((p1.length:Int) - 1))))):Nat):Int) - 1)) - 0+2:Int).toNat y4 (w64 ((((Int.toNat (w64 ((p0.length:Int) - (w64 ((p1.length:Int) - 1))))):Nat):Int) - 1)) y2:Option (((List Int)×(List Int))))).bind fun o=>match o with
|(v8,l0)=>(
(zbP N l0).bind fun r73=>
some (r73,v8))))
theorem zfn{N:Nat}{p0:(List Int)}{p1:(List Int)}{r:((List Int)×(List Int))}(h:zdP N p0 p1=some r):Lx.FnA mC 167 [(fzE false (eI .i64) p0),(fzE false (eI .i64) p1)] (.tup [(fzE false (eI .i64) r.1),(fzE false (eI .i64) r.2)]):=by
 refine zqN (by conv=>lhs; cbv) ?_;unfold zdP at h;refine zaa ?_;try simp only[rnA,Nat.reduceEqDiff,Nat.reduceLT,Nat.reduceAdd,reduceCtorEq,zam]
 cases c1:(decide ((p0.length:Int)≤(w64 ((p1.length:Int) - 1))))
 ·rw[c1,cond_false]at h;obtain⟨y2,g3,h⟩:=bind_some h;obtain⟨y4,g5,h⟩:=bind_some h;try simp only[rnA,Nat.reduceEqDiff,Nat.reduceLT,Nat.reduceAdd,Nat.reduceLeDiff,reduceCtorEq,zam,(zau g3).1.1,(zau g3).1.2,qa1,(show List.replicate (Int.toNat (w64 ((p0.length:Int) - (w64 ((p1.length:Int) - 1))))) [(dI 0)]=y2.map ((eI .i64).c true)from zbD g3 ((eI .i64).c true)),zsF (n:=1) (e:=(eI .i64)) rfl g5,(show ∀ L,zku L 1 (fzE false (eI .i64) y4)=some (y4.map ((eI .i64).c true))from fun L=>ziX (e:=(eI .i64)) rfl _ L false)]
  cases c6:(y4.isEmpty)
  ·rw[c6,cond_false]at h;obtain⟨y7,g8,h⟩:=bind_some h;try simp only[rnA,Nat.reduceEqDiff,Nat.reduceLT,reduceCtorEq,qaC,qbI,(zjO c6),(zqT c6),zik g8,zaN g3]
   obtain⟨o81,j81,h⟩:=bind_some h;obtain⟨T81,hT81⟩:=mkT fun a:((List Int)×(List Int))=>⟨124,[(7,(.sl 0 0 1 (Int.toNat (w64 ((p0.length:Int) - (w64 ((p1.length:Int) - 1))))) (some (Int.toNat (w64 ((p0.length:Int) - (w64 ((p1.length:Int) - 1)))))) (Int.toNat (w64 ((p0.length:Int) - (w64 ((p1.length:Int) - 1))))))),(8,(fzE false (eI .i64) a.1))],[.els 1 (a.2.map ((eI .i64).c true))]⟩
   refine EvL.jn T81 (fun a=>a=o81∧a.2.length=(Int.toNat (w64 ((p0.length:Int) - (w64 ((p1.length:Int) - 1)))))) ?_ ?_
   ·refine zaa ?_;simp only[rnA];obtain⟨T130,hT130⟩:=mkT fun a:((List Int)×Int×(List Int))=>⟨124,[(0,(fzE false (eI .i64) p0)),(1,(fzE false (eI .i64) p1)),(6,(dI (w64 ((p1.length:Int) - 1)))),(7,(.sl 0 0 1 (Int.toNat (w64 ((p0.length:Int) - (w64 ((p1.length:Int) - 1))))) (some (Int.toNat (w64 ((p0.length:Int) - (w64 ((p1.length:Int) - 1)))))) (Int.toNat (w64 ((p0.length:Int) - (w64 ((p1.length:Int) - 1))))))),(8,(fzE false (eI .i64) a.1)),(9,(dI a.2.1))],[.els 1 (a.2.2.map ((eI .i64).c true))]⟩
    refine EvL.rounds (α:=((List Int)×Int×(List Int))) T130 (fun n a=>zdp N p0 p1 n a.1 a.2.1 a.2.2=some o81∧a.2.2.length=(Int.toNat (w64 ((p0.length:Int) - (w64 ((p1.length:Int) - 1)))))) ((w64 ((((Int.toNat (w64 ((p0.length:Int) - (w64 ((p1.length:Int) - 1))))):Nat):Int) - 1)) - 0+2:Int).toNat (y4,(w64 ((((Int.toNat (w64 ((p0.length:Int) - (w64 ((p1.length:Int) - 1))))):Nat):Int) - 1)),y2) (by rw[hT130]; exact zaV.m0 [.k,.d,.f] rfl (msq (msq (msq (msq (mf rfl (zcM (e:=(eI .i64)) (t:=true) rfl rfl (.inr rfl) rfl rfl (fun k h=>nomatch h) (fun h=>by cases h<;>rfl)) (msq trivial)))))) ⟨MB.es (eI .i64) true y2,qb1⟩) ⟨j81,zaN g3⟩ (fun _ h=>nomatch (show(none:Option ((List Int)×(List Int)))=some o81 from h.1)) ?_;rintro n ⟨v8,v9,l0⟩ ⟨j81,el0⟩;simp only[zdp]at j81;rw[congrFun hT130 (v8,v9,l0)];refine zaa ?_;try simp only[rnA,Nat.reduceEqDiff,Nat.reduceLT,reduceCtorEq]
    cases c9:(decide (0≤v9))
    ·rw[c9,cond_false]at j81;try simp only[rnA]
     replace j81:=qaa j81; subst j81;exact⟨_,⟨rfl,el0⟩,by rw[hT81]; exact wm0 [.k] ⟨MB.es (eI .i64) true l0,qb1⟩⟩
    rw[c9,cond_true]at j81;obtain⟨x10,g11,j81⟩:=bind_some j81;try simp only[rnA,Nat.reduceEqDiff,Nat.reduceLT,Nat.reduceAdd,Nat.reduceLeDiff,reduceCtorEq,zak (n:=1) (e:=(eI .i64)) rfl g11,(show ∀ L,zku L 1 (fzE false (eI .i64) v8)=some (v8.map ((eI .i64).c true))from fun L=>ziX (e:=(eI .i64)) rfl _ L false)]
    cases c12:(v8.isEmpty)
    ·rw[c12,cond_false]at j81;obtain⟨y13,g14,j81⟩:=bind_some j81;try simp only[rnA,Nat.reduceLT,(zjO c12),(show 1+v8.length=y13.length from zbC g14),zcE g14,(show(y13.length≤1)=False from(show 1+v8.length=y13.length from zbC g14)▸ zqG c12 1),(show [(dI x10)]:: v8.map ((eI .i64).c true)=y13.map ((eI .i64).c true)from zcm g14 ((eI .i64).c true))]
     refine EvL.zeH (S':=⟨124,[(0,(fzE false (eI .i64) p0)),(1,(fzE false (eI .i64) p1)),(6,(dI (w64 ((p1.length:Int) - 1)))),(7,(.sl 0 0 1 (Int.toNat (w64 ((p0.length:Int) - (w64 ((p1.length:Int) - 1))))) (some (Int.toNat (w64 ((p0.length:Int) - (w64 ((p1.length:Int) - 1)))))) (Int.toNat (w64 ((p0.length:Int) - (w64 ((p1.length:Int) - 1))))))),(9,(dI v9)),(52,(fzE true (eI .i64) y13))],[.els 1 (l0.map ((eI .i64).c true))]⟩) (zaV.m0 [.k,.d,.f] rfl (msq (msq (msq (msq (msq (mf rfl (zcM (e:=(eI .i64)) (t:=true) rfl rfl (.inr rfl) rfl rfl (fun k h=>nomatch h) (fun h=>by cases h<;>rfl)) trivial)))))) ⟨MB.es (eI .i64) true l0,qb1⟩) (zaa ?_);obtain⟨r15,g16,j81⟩:=bind_some j81;try simp only[rnA]
     refine EvL.fnS (zbM g16) rfl rfl (.cons (zal _ _ (fun h=>h.elim (fun h=>nomatch h) (fun h=>nomatch h))) .nil) ⟨(zae _ _),qb1⟩ (zae _ _) ?_;try simp only[rnA,Nat.reduceEqDiff,Nat.reduceLT,reduceCtorEq]
     obtain⟨o137,j137,j81⟩:=bind_some j81;obtain⟨T137,hT137⟩:=mkT fun a:(Int×Int)=>⟨124,[(0,(fzE false (eI .i64) p0)),(1,(fzE false (eI .i64) p1)),(6,(dI (w64 ((p1.length:Int) - 1)))),(7,(.sl 0 0 1 (Int.toNat (w64 ((p0.length:Int) - (w64 ((p1.length:Int) - 1))))) (some (Int.toNat (w64 ((p0.length:Int) - (w64 ((p1.length:Int) - 1)))))) (Int.toNat (w64 ((p0.length:Int) - (w64 ((p1.length:Int) - 1))))))),(8,(fzE false (eI .i64) r15)),(9,(dI v9)),(10,(dI a.1)),(11,(dI a.2))],[.els 1 (l0.map ((eI .i64).c true))]⟩
     refine EvL.jn T137 (fun a=>a=o137) ?_ ?_
     ·refine zaa ?_;simp only[rnA];obtain⟨T142,hT142⟩:=mkT fun a:(Int×Int×Int)=>⟨124,[(0,(fzE false (eI .i64) p0)),(1,(fzE false (eI .i64) p1)),(6,(dI (w64 ((p1.length:Int) - 1)))),(7,(.sl 0 0 1 (Int.toNat (w64 ((p0.length:Int) - (w64 ((p1.length:Int) - 1))))) (some (Int.toNat (w64 ((p0.length:Int) - (w64 ((p1.length:Int) - 1)))))) (Int.toNat (w64 ((p0.length:Int) - (w64 ((p1.length:Int) - 1))))))),(8,(fzE false (eI .i64) r15)),(9,(dI v9)),(10,(dI a.1)),(11,(dI a.2.1)),(12,(dI a.2.2))],[.els 1 (l0.map ((eI .i64).c true))]⟩
      refine EvL.rounds (α:=(Int×Int×Int)) T142 (fun n a=>zd4 p1 r15 n a.1 a.2.1 a.2.2=some o137) ((w64 ((w64 ((p1.length:Int) - 1))+1)) - (zjc 0 (w64 ((w64 ((p1.length:Int) - 1)) - 1)))+2:Int).toNat (0,0,(w64 ((w64 ((p1.length:Int) - 1))+1))) (by rw[hT142]; exact wm0 [.k] ⟨MB.es (eI .i64) true l0,qb1⟩) j137 (fun _ h=>nomatch (show(none:Option (Int×Int))=some o137 from h)) ?_;rintro n ⟨v10,v11,v12⟩ j137;simp only[zd4]at j137;rw[congrFun hT142 (v10,v11,v12)];refine zaa ?_;try simp only[rnA,Nat.reduceEqDiff,Nat.reduceLT,reduceCtorEq]
      cases c17:(decide ((zjc 0 (w64 ((w64 ((p1.length:Int) - 1)) - 1)))≤v12))
      ·rw[c17,cond_false]at j137;try simp only[rnA,Nat.reduceEqDiff,Nat.reduceLT,reduceCtorEq]
       replace j137:=qaa j137; subst j137;exact lfj hT137 rfl (wm0 [.k] ⟨MB.es (eI .i64) true l0,qb1⟩)
      rw[c17,cond_true]at j137;try simp only[rnA,Nat.reduceEqDiff,Nat.reduceLT,reduceCtorEq,zam]
      obtain⟨o143,j143,j137⟩:=bind_some j137;obtain⟨T143,hT143⟩:=mkT fun a:Int=>⟨124,[(0,(fzE false (eI .i64) p0)),(1,(fzE false (eI .i64) p1)),(6,(dI (w64 ((p1.length:Int) - 1)))),(7,(.sl 0 0 1 (Int.toNat (w64 ((p0.length:Int) - (w64 ((p1.length:Int) - 1))))) (some (Int.toNat (w64 ((p0.length:Int) - (w64 ((p1.length:Int) - 1)))))) (Int.toNat (w64 ((p0.length:Int) - (w64 ((p1.length:Int) - 1))))))),(8,(fzE false (eI .i64) r15)),(9,(dI v9)),(10,(dI v10)),(11,(dI a)),(12,(dI v12))],[.els 1 (l0.map ((eI .i64).c true))]⟩
      refine EvL.jn T143 (fun a=>a=o143) ?_ ?_
      ·refine zaa ?_;try simp only[rnA,Nat.reduceEqDiff,reduceCtorEq]
       cases c18:(decide (v12<(r15.length:Int)))
       ·rw[c18,cond_false]at j143;try simp only[rnA]
        replace j143:=qaa j143; subst j143;exact lfj hT143 rfl (wm0 [.k] ⟨MB.es (eI .i64) true l0,qb1⟩)
       rw[c18,cond_true]at j143;obtain⟨x19,g20,j143⟩:=bind_some j143;try simp only[rnA,Nat.reduceEqDiff,Nat.reduceLT,reduceCtorEq,zak (n:=1) (e:=(eI .i64)) rfl g20]
       replace j143:=qaa j143; subst j143;exact lfj hT143 rfl (wm0 [.k] ⟨MB.es (eI .i64) true l0,qb1⟩)
      rintro v11' rfl;rw[congrFun hT143 v11'];refine zaa ?_;try simp only[rnA,Nat.reduceEqDiff,Nat.reduceLT,reduceCtorEq]
      obtain⟨o144,j144,j137⟩:=bind_some j137;obtain⟨T144,hT144⟩:=mkT fun a:Int=>⟨124,[(0,(fzE false (eI .i64) p0)),(1,(fzE false (eI .i64) p1)),(6,(dI (w64 ((p1.length:Int) - 1)))),(7,(.sl 0 0 1 (Int.toNat (w64 ((p0.length:Int) - (w64 ((p1.length:Int) - 1))))) (some (Int.toNat (w64 ((p0.length:Int) - (w64 ((p1.length:Int) - 1)))))) (Int.toNat (w64 ((p0.length:Int) - (w64 ((p1.length:Int) - 1))))))),(8,(fzE false (eI .i64) r15)),(9,(dI v9)),(10,(dI a)),(11,(dI v11')),(12,(dI v12))],[.els 1 (l0.map ((eI .i64).c true))]⟩
      refine EvL.jn T144 (fun a=>a=o144) ?_ ?_
      ·refine zaa ?_;try simp only[rnA,Nat.reduceEqDiff,reduceCtorEq]
       cases c21:(decide (v12≤(w64 ((p1.length:Int) - 1))))
       ·rw[c21,cond_false]at j144;try simp only[rnA]
        replace j144:=qaa j144; subst j144;exact lfj hT144 rfl (wm0 [.k] ⟨MB.es (eI .i64) true l0,qb1⟩)
       rw[c21,cond_true]at j144;obtain⟨x22,g23,j144⟩:=bind_some j144;try simp only[rnA,Nat.reduceEqDiff,Nat.reduceLT,reduceCtorEq,zak (n:=1) (e:=(eI .i64)) rfl g23]
       replace j144:=qaa j144; subst j144;exact lfj hT144 rfl (wm0 [.k] ⟨MB.es (eI .i64) true l0,qb1⟩)
      rintro v10' rfl;rw[congrFun hT144 v10'];refine zaa ?_;try simp only[rnA,Nat.reduceEqDiff,Nat.reduceLT,reduceCtorEq]
      exact⟨(v10',v11',(w64 (v12 - 1))),j137,by rw[hT142]; exact wm0 [.k] ⟨MB.es (eI .i64) true l0,qb1⟩⟩
     rintro⟨v10,v11⟩ rfl;dsimp only at j81;rw[congrFun hT137 (v10,v11)];refine zaa ?_;obtain⟨q24,g25,j81⟩:=bind_some j81;obtain⟨q26,g27,j81⟩:=bind_some j81;try simp only[rnA,Nat.reduceEqDiff,Nat.reduceLT,reduceCtorEq,zce g25,zcq g25,zce g27,zcq g27]
     obtain⟨o145,j145,j81⟩:=bind_some j81;obtain⟨T145,hT145⟩:=mkT fun a:Int=>⟨124,[(0,(fzE false (eI .i64) p0)),(1,(fzE false (eI .i64) p1)),(6,(dI (w64 ((p1.length:Int) - 1)))),(7,(.sl 0 0 1 (Int.toNat (w64 ((p0.length:Int) - (w64 ((p1.length:Int) - 1))))) (some (Int.toNat (w64 ((p0.length:Int) - (w64 ((p1.length:Int) - 1)))))) (Int.toNat (w64 ((p0.length:Int) - (w64 ((p1.length:Int) - 1))))))),(8,(fzE false (eI .i64) r15)),(9,(dI v9)),(13,(dI a))],[.els 1 (l0.map ((eI .i64).c true))]⟩
     refine EvL.jn T145 (fun a=>a=o145) ?_ ?_
     ·refine zaa ?_;simp only[rnA];obtain⟨T146,hT146⟩:=mkT fun a:(Int×Int)=>⟨124,[(0,(fzE false (eI .i64) p0)),(1,(fzE false (eI .i64) p1)),(6,(dI (w64 ((p1.length:Int) - 1)))),(7,(.sl 0 0 1 (Int.toNat (w64 ((p0.length:Int) - (w64 ((p1.length:Int) - 1))))) (some (Int.toNat (w64 ((p0.length:Int) - (w64 ((p1.length:Int) - 1)))))) (Int.toNat (w64 ((p0.length:Int) - (w64 ((p1.length:Int) - 1))))))),(8,(fzE false (eI .i64) r15)),(9,(dI v9)),(13,(dI a.1)),(14,(dI a.2))],[.els 1 (l0.map ((eI .i64).c true))]⟩
      refine EvL.rounds (α:=(Int×Int)) T146 (fun n a=>zdq N p1 r15 n a.1 a.2=some o145) (q26 - q24+2:Int).toNat (q24,q26) (by rw[hT146]; exact wm0 [.k] ⟨MB.es (eI .i64) true l0,qb1⟩) j145 (fun _ h=>nomatch (show(none:Option Int)=some o145 from h)) ?_;rintro n ⟨v13,v14⟩ j145;simp only[zdq]at j145;rw[congrFun hT146 (v13,v14)];refine zaa ?_;try simp only[rnA,Nat.reduceEqDiff,Nat.reduceLT,reduceCtorEq]
      cases c28:(decide (v13<v14))
      ·rw[c28,cond_false]at j145;try simp only[rnA,Nat.reduceEqDiff,Nat.reduceLT,reduceCtorEq]
       replace j145:=qaa j145; subst j145;exact lfj hT145 rfl (wm0 [.k] ⟨MB.es (eI .i64) true l0,qb1⟩)
      rw[c28,cond_true]at j145;try simp only[rnA,Nat.reduceEqDiff,Nat.reduceLT,Int.reduceBEq,reduceCtorEq]
      refine EvL.zeH (S':=⟨124,[(0,(fzE false (eI .i64) p0)),(1,(fzE false (eI .i64) p1)),(6,(dI (w64 ((p1.length:Int) - 1)))),(7,(.sl 0 0 1 (Int.toNat (w64 ((p0.length:Int) - (w64 ((p1.length:Int) - 1))))) (some (Int.toNat (w64 ((p0.length:Int) - (w64 ((p1.length:Int) - 1)))))) (Int.toNat (w64 ((p0.length:Int) - (w64 ((p1.length:Int) - 1))))))),(8,(fzE false (eI .i64) r15)),(9,(dI v9)),(13,(dI v13)),(14,(dI v14)),(15,(dI (w64 ((w64 ((w64 (v13+v14))+1)).tdiv 2)))),(100,(fzE false (eI .i64) p1)),(102,(fzE true (eI .i64) [(w64 ((w64 ((w64 (v13+v14))+1)).tdiv 2))]))],[.els 1 (l0.map ((eI .i64).c true))]⟩) (zaV.m0 [.k,.f] rfl (msq (msq (msq (msq (msq (msq (msq (msq (msq (msq (mf rfl (zcM (e:=(eI .i64)) (t:=true) rfl rfl (.inl rfl) rfl rfl (fun k h=>by cases h; exact qae _) (fun h=>by cases h<;>rfl)) trivial))))))))))) ⟨MB.es (eI .i64) true l0,qb1⟩) (zaa ?_);obtain⟨r29,g30,j145⟩:=bind_some j145;try simp only[rnA]
      refine EvL.fnS (zcb g30) rfl rfl (.cons (zal _ _ (fun h=>h.elim (fun h=>nomatch h) (fun h=>nomatch h))) (.cons (zal _ _ (fun h=>h.elim (fun h=>nomatch h) (fun h=>nomatch h))) .nil)) ⟨(zae _ _),(zae _ _),qb1⟩ (zae _ _) ?_;obtain⟨r31,g32,j145⟩:=bind_some j145;try simp only[rnA,Nat.reduceEqDiff,Nat.reduceLT,reduceCtorEq]
      refine EvL.fn (zcO g32) rfl rfl (.cons (zad _ _ (fun h=>nomatch h)) (.cons (zad _ _ (fun h=>nomatch h)) .nil)) ?_;try simp only[rnA,Nat.reduceEqDiff,Nat.reduceLT,reduceCtorEq]
      cases c33:(decide (r31≤0))
      ·rw[c33,cond_false]at j145;try simp only[rnA,Nat.reduceEqDiff,Nat.reduceLT,reduceCtorEq]
       exact⟨(v13,(w64 ((w64 ((w64 ((w64 (v13+v14))+1)).tdiv 2)) - 1))),j145,by rw[hT146]; exact wm0 [.k] ⟨MB.es (eI .i64) true l0,qb1⟩⟩
      rw[c33,cond_true]at j145;try simp only[rnA,Nat.reduceEqDiff,Nat.reduceLT,reduceCtorEq]
      exact⟨((w64 ((w64 ((w64 (v13+v14))+1)).tdiv 2)),v14),j145,by rw[hT146]; exact wm0 [.k] ⟨MB.es (eI .i64) true l0,qb1⟩⟩
     rintro v13 rfl;rw[congrFun hT145 v13];refine zaa ?_;obtain⟨x34,g35,j81⟩:=bind_some j81;obtain⟨y36,g37,j81⟩:=bind_some j81;try simp only[rnA,Nat.reduceEqDiff,Nat.reduceLT,Nat.reduceLeDiff,reduceCtorEq,el0,za3 g35,(show v9<(((Int.toNat (w64 ((p0.length:Int) - (w64 ((p1.length:Int) - 1))))):Nat):Int)from el0 ▸ zaY g35),zaB g35 ((eI .i64).c true),(show(l0.map ((eI .i64).c true)).set v9.toNat [(dI v13)]=y36.map ((eI .i64).c true)from za2 g37 ((eI .i64).c true))]
     refine EvL.zeH (S':=⟨124,[(0,(fzE false (eI .i64) p0)),(1,(fzE false (eI .i64) p1)),(6,(dI (w64 ((p1.length:Int) - 1)))),(7,(.sl 0 0 1 (Int.toNat (w64 ((p0.length:Int) - (w64 ((p1.length:Int) - 1))))) (some (Int.toNat (w64 ((p0.length:Int) - (w64 ((p1.length:Int) - 1)))))) (Int.toNat (w64 ((p0.length:Int) - (w64 ((p1.length:Int) - 1))))))),(9,(dI v9)),(114,(fzE false (eI .i64) r15)),(115,(fzE false (eI .i64) p1)),(117,(fzE true (eI .i64) [v13]))],[.els 1 (y36.map ((eI .i64).c true))]⟩) (zaV.m0 [.k,.f] rfl (msq (msq (msq (msq (msq (msq (msq (mf rfl (zcM (e:=(eI .i64)) (t:=true) rfl rfl (.inl rfl) rfl rfl (fun k h=>by cases h; exact qae _) (fun h=>by cases h<;>rfl)) trivial)))))))) ⟨MB.es (eI .i64) true y36,qb1⟩) (zaa ?_);obtain⟨r38,g39,j81⟩:=bind_some j81;try simp only[rnA]
     refine EvL.fnS (zbM g39) rfl rfl (.cons (zal _ _ (fun h=>h.elim (fun h=>nomatch h) (fun h=>nomatch h))) .nil) ⟨(zae _ _),qb1⟩ (zae _ _) ?_;obtain⟨r40,g41,j81⟩:=bind_some j81;try simp only[rnA,Nat.reduceLT]
     refine EvL.fnS (zcb g41) rfl rfl (.cons (zal _ _ (fun h=>h.elim (fun h=>nomatch h) (fun h=>nomatch h))) (.cons (zal _ _ (fun h=>h.elim (fun h=>nomatch h) (fun h=>nomatch h))) .nil)) ⟨(zae _ _),(zae _ _),qb1⟩ (zae _ _) ?_;obtain⟨r42,g43,j81⟩:=bind_some j81;try simp only[rnA,Nat.reduceLT]
     refine EvL.fnS (zeu g43) rfl rfl (.cons (zal _ _ (fun h=>h.elim (fun h=>nomatch h) (fun h=>nomatch h))) (.cons (zal _ _ (fun h=>h.elim (fun h=>nomatch h) (fun h=>nomatch h))) .nil)) ⟨(zae _ _),(zae _ _),qb1⟩ (zae _ _) ?_;try simp only[rnA,Nat.reduceEqDiff,Nat.reduceLT,reduceCtorEq]
     exact⟨(r42,(w64 (v9 - 1)),y36),⟨j81,(zaR g37).trans el0⟩,by rw[hT130]; exact wm0 [.k] ⟨MB.es (eI .i64) true y36,qb1⟩⟩
    rw[c12,cond_true]at j81;try simp only[rnA,Nat.reduceLT,Nat.reduceMul,qbR,qaC,qae,qbI,(qbY.1 c12)]
    refine EvL.zeH (S':=⟨124,[(0,(fzE false (eI .i64) p0)),(1,(fzE false (eI .i64) p1)),(6,(dI (w64 ((p1.length:Int) - 1)))),(7,(.sl 0 0 1 (Int.toNat (w64 ((p0.length:Int) - (w64 ((p1.length:Int) - 1))))) (some (Int.toNat (w64 ((p0.length:Int) - (w64 ((p1.length:Int) - 1)))))) (Int.toNat (w64 ((p0.length:Int) - (w64 ((p1.length:Int) - 1))))))),(9,(dI v9)),(52,(fzE true (eI .i64) [x10]))],[.els 1 (l0.map ((eI .i64).c true))]⟩) (zaV.m0 [.k,.f] rfl (msq (msq (msq (msq (msq (mf rfl (zcM (e:=(eI .i64)) (t:=true) rfl rfl (.inl rfl) rfl rfl (fun k h=>by cases h; exact qae _) (fun h=>by cases h<;>rfl)) trivial)))))) ⟨MB.es (eI .i64) true l0,qb1⟩) (zaa ?_);obtain⟨r44,g45,j81⟩:=bind_some j81;try simp only[rnA]
    refine EvL.fnS (zbM g45) rfl rfl (.cons (zal _ _ (fun h=>h.elim (fun h=>nomatch h) (fun h=>nomatch h))) .nil) ⟨(zae _ _),qb1⟩ (zae _ _) ?_;try simp only[rnA,Nat.reduceEqDiff,Nat.reduceLT,reduceCtorEq]
    obtain⟨o153,j153,j81⟩:=bind_some j81;obtain⟨T153,hT153⟩:=mkT fun a:(Int×Int)=>⟨124,[(0,(fzE false (eI .i64) p0)),(1,(fzE false (eI .i64) p1)),(6,(dI (w64 ((p1.length:Int) - 1)))),(7,(.sl 0 0 1 (Int.toNat (w64 ((p0.length:Int) - (w64 ((p1.length:Int) - 1))))) (some (Int.toNat (w64 ((p0.length:Int) - (w64 ((p1.length:Int) - 1)))))) (Int.toNat (w64 ((p0.length:Int) - (w64 ((p1.length:Int) - 1))))))),(8,(fzE false (eI .i64) r44)),(9,(dI v9)),(10,(dI a.1)),(11,(dI a.2))],[.els 1 (l0.map ((eI .i64).c true))]⟩
    refine EvL.jn T153 (fun a=>a=o153) ?_ ?_
    ·refine zaa ?_;simp only[rnA];obtain⟨T158,hT158⟩:=mkT fun a:(Int×Int×Int)=>⟨124,[(0,(fzE false (eI .i64) p0)),(1,(fzE false (eI .i64) p1)),(6,(dI (w64 ((p1.length:Int) - 1)))),(7,(.sl 0 0 1 (Int.toNat (w64 ((p0.length:Int) - (w64 ((p1.length:Int) - 1))))) (some (Int.toNat (w64 ((p0.length:Int) - (w64 ((p1.length:Int) - 1)))))) (Int.toNat (w64 ((p0.length:Int) - (w64 ((p1.length:Int) - 1))))))),(8,(fzE false (eI .i64) r44)),(9,(dI v9)),(10,(dI a.1)),(11,(dI a.2.1)),(12,(dI a.2.2))],[.els 1 (l0.map ((eI .i64).c true))]⟩
     refine EvL.rounds (α:=(Int×Int×Int)) T158 (fun n a=>zd0 p1 r44 n a.1 a.2.1 a.2.2=some o153) ((w64 ((w64 ((p1.length:Int) - 1))+1)) - (zjc 0 (w64 ((w64 ((p1.length:Int) - 1)) - 1)))+2:Int).toNat (0,0,(w64 ((w64 ((p1.length:Int) - 1))+1))) (by rw[hT158]; exact wm0 [.k] ⟨MB.es (eI .i64) true l0,qb1⟩) j153 (fun _ h=>nomatch (show(none:Option (Int×Int))=some o153 from h)) ?_;rintro n ⟨v10,v11,v12⟩ j153;simp only[zd0]at j153;rw[congrFun hT158 (v10,v11,v12)];refine zaa ?_;try simp only[rnA,Nat.reduceEqDiff,Nat.reduceLT,reduceCtorEq]
     cases c46:(decide ((zjc 0 (w64 ((w64 ((p1.length:Int) - 1)) - 1)))≤v12))
     ·rw[c46,cond_false]at j153;try simp only[rnA,Nat.reduceEqDiff,Nat.reduceLT,reduceCtorEq]
      replace j153:=qaa j153; subst j153;exact lfj hT153 rfl (wm0 [.k] ⟨MB.es (eI .i64) true l0,qb1⟩)
     rw[c46,cond_true]at j153;try simp only[rnA,Nat.reduceEqDiff,Nat.reduceLT,reduceCtorEq,zam]
     obtain⟨o159,j159,j153⟩:=bind_some j153;obtain⟨T159,hT159⟩:=mkT fun a:Int=>⟨124,[(0,(fzE false (eI .i64) p0)),(1,(fzE false (eI .i64) p1)),(6,(dI (w64 ((p1.length:Int) - 1)))),(7,(.sl 0 0 1 (Int.toNat (w64 ((p0.length:Int) - (w64 ((p1.length:Int) - 1))))) (some (Int.toNat (w64 ((p0.length:Int) - (w64 ((p1.length:Int) - 1)))))) (Int.toNat (w64 ((p0.length:Int) - (w64 ((p1.length:Int) - 1))))))),(8,(fzE false (eI .i64) r44)),(9,(dI v9)),(10,(dI v10)),(11,(dI a)),(12,(dI v12))],[.els 1 (l0.map ((eI .i64).c true))]⟩
     refine EvL.jn T159 (fun a=>a=o159) ?_ ?_
     ·refine zaa ?_;try simp only[rnA,Nat.reduceEqDiff,reduceCtorEq]
      cases c47:(decide (v12<(r44.length:Int)))
      ·rw[c47,cond_false]at j159;try simp only[rnA]
       replace j159:=qaa j159; subst j159;exact lfj hT159 rfl (wm0 [.k] ⟨MB.es (eI .i64) true l0,qb1⟩)
      rw[c47,cond_true]at j159;obtain⟨x48,g49,j159⟩:=bind_some j159;try simp only[rnA,Nat.reduceEqDiff,Nat.reduceLT,reduceCtorEq,zak (n:=1) (e:=(eI .i64)) rfl g49]
      replace j159:=qaa j159; subst j159;exact lfj hT159 rfl (wm0 [.k] ⟨MB.es (eI .i64) true l0,qb1⟩)
     rintro v11' rfl;rw[congrFun hT159 v11'];refine zaa ?_;try simp only[rnA,Nat.reduceEqDiff,Nat.reduceLT,reduceCtorEq]
     obtain⟨o160,j160,j153⟩:=bind_some j153;obtain⟨T160,hT160⟩:=mkT fun a:Int=>⟨124,[(0,(fzE false (eI .i64) p0)),(1,(fzE false (eI .i64) p1)),(6,(dI (w64 ((p1.length:Int) - 1)))),(7,(.sl 0 0 1 (Int.toNat (w64 ((p0.length:Int) - (w64 ((p1.length:Int) - 1))))) (some (Int.toNat (w64 ((p0.length:Int) - (w64 ((p1.length:Int) - 1)))))) (Int.toNat (w64 ((p0.length:Int) - (w64 ((p1.length:Int) - 1))))))),(8,(fzE false (eI .i64) r44)),(9,(dI v9)),(10,(dI a)),(11,(dI v11')),(12,(dI v12))],[.els 1 (l0.map ((eI .i64).c true))]⟩
     refine EvL.jn T160 (fun a=>a=o160) ?_ ?_
     ·refine zaa ?_;try simp only[rnA,Nat.reduceEqDiff,reduceCtorEq]
      cases c50:(decide (v12≤(w64 ((p1.length:Int) - 1))))
      ·rw[c50,cond_false]at j160;try simp only[rnA]
       replace j160:=qaa j160; subst j160;exact lfj hT160 rfl (wm0 [.k] ⟨MB.es (eI .i64) true l0,qb1⟩)
      rw[c50,cond_true]at j160;obtain⟨x51,g52,j160⟩:=bind_some j160;try simp only[rnA,Nat.reduceEqDiff,Nat.reduceLT,reduceCtorEq,zak (n:=1) (e:=(eI .i64)) rfl g52]
      replace j160:=qaa j160; subst j160;exact lfj hT160 rfl (wm0 [.k] ⟨MB.es (eI .i64) true l0,qb1⟩)
     rintro v10' rfl;rw[congrFun hT160 v10'];refine zaa ?_;try simp only[rnA,Nat.reduceEqDiff,Nat.reduceLT,reduceCtorEq]
     exact⟨(v10',v11',(w64 (v12 - 1))),j153,by rw[hT158]; exact wm0 [.k] ⟨MB.es (eI .i64) true l0,qb1⟩⟩
    rintro⟨v10,v11⟩ rfl;dsimp only at j81;rw[congrFun hT153 (v10,v11)];refine zaa ?_;obtain⟨q53,g54,j81⟩:=bind_some j81;obtain⟨q55,g56,j81⟩:=bind_some j81;try simp only[rnA,Nat.reduceEqDiff,Nat.reduceLT,reduceCtorEq,zce g54,zcq g54,zce g56,zcq g56]
    obtain⟨o161,j161,j81⟩:=bind_some j81;obtain⟨T161,hT161⟩:=mkT fun a:Int=>⟨124,[(0,(fzE false (eI .i64) p0)),(1,(fzE false (eI .i64) p1)),(6,(dI (w64 ((p1.length:Int) - 1)))),(7,(.sl 0 0 1 (Int.toNat (w64 ((p0.length:Int) - (w64 ((p1.length:Int) - 1))))) (some (Int.toNat (w64 ((p0.length:Int) - (w64 ((p1.length:Int) - 1)))))) (Int.toNat (w64 ((p0.length:Int) - (w64 ((p1.length:Int) - 1))))))),(8,(fzE false (eI .i64) r44)),(9,(dI v9)),(13,(dI a))],[.els 1 (l0.map ((eI .i64).c true))]⟩
    refine EvL.jn T161 (fun a=>a=o161) ?_ ?_
    ·refine zaa ?_;simp only[rnA];obtain⟨T162,hT162⟩:=mkT fun a:(Int×Int)=>⟨124,[(0,(fzE false (eI .i64) p0)),(1,(fzE false (eI .i64) p1)),(6,(dI (w64 ((p1.length:Int) - 1)))),(7,(.sl 0 0 1 (Int.toNat (w64 ((p0.length:Int) - (w64 ((p1.length:Int) - 1))))) (some (Int.toNat (w64 ((p0.length:Int) - (w64 ((p1.length:Int) - 1)))))) (Int.toNat (w64 ((p0.length:Int) - (w64 ((p1.length:Int) - 1))))))),(8,(fzE false (eI .i64) r44)),(9,(dI v9)),(13,(dI a.1)),(14,(dI a.2))],[.els 1 (l0.map ((eI .i64).c true))]⟩
     refine EvL.rounds (α:=(Int×Int)) T162 (fun n a=>zdo N p1 r44 n a.1 a.2=some o161) (q55 - q53+2:Int).toNat (q53,q55) (by rw[hT162]; exact wm0 [.k] ⟨MB.es (eI .i64) true l0,qb1⟩) j161 (fun _ h=>nomatch (show(none:Option Int)=some o161 from h)) ?_;rintro n ⟨v13,v14⟩ j161;simp only[zdo]at j161;rw[congrFun hT162 (v13,v14)];refine zaa ?_;try simp only[rnA,Nat.reduceEqDiff,Nat.reduceLT,reduceCtorEq]
     cases c57:(decide (v13<v14))
     ·rw[c57,cond_false]at j161;try simp only[rnA,Nat.reduceEqDiff,Nat.reduceLT,reduceCtorEq]
      replace j161:=qaa j161; subst j161;exact lfj hT161 rfl (wm0 [.k] ⟨MB.es (eI .i64) true l0,qb1⟩)
     rw[c57,cond_true]at j161;try simp only[rnA,Nat.reduceEqDiff,Nat.reduceLT,Int.reduceBEq,reduceCtorEq]
     refine EvL.zeH (S':=⟨124,[(0,(fzE false (eI .i64) p0)),(1,(fzE false (eI .i64) p1)),(6,(dI (w64 ((p1.length:Int) - 1)))),(7,(.sl 0 0 1 (Int.toNat (w64 ((p0.length:Int) - (w64 ((p1.length:Int) - 1))))) (some (Int.toNat (w64 ((p0.length:Int) - (w64 ((p1.length:Int) - 1)))))) (Int.toNat (w64 ((p0.length:Int) - (w64 ((p1.length:Int) - 1))))))),(8,(fzE false (eI .i64) r44)),(9,(dI v9)),(13,(dI v13)),(14,(dI v14)),(15,(dI (w64 ((w64 ((w64 (v13+v14))+1)).tdiv 2)))),(100,(fzE false (eI .i64) p1)),(102,(fzE true (eI .i64) [(w64 ((w64 ((w64 (v13+v14))+1)).tdiv 2))]))],[.els 1 (l0.map ((eI .i64).c true))]⟩) (zaV.m0 [.k,.f] rfl (msq (msq (msq (msq (msq (msq (msq (msq (msq (msq (mf rfl (zcM (e:=(eI .i64)) (t:=true) rfl rfl (.inl rfl) rfl rfl (fun k h=>by cases h; exact qae _) (fun h=>by cases h<;>rfl)) trivial))))))))))) ⟨MB.es (eI .i64) true l0,qb1⟩) (zaa ?_);obtain⟨r58,g59,j161⟩:=bind_some j161;try simp only[rnA]
     refine EvL.fnS (zcb g59) rfl rfl (.cons (zal _ _ (fun h=>h.elim (fun h=>nomatch h) (fun h=>nomatch h))) (.cons (zal _ _ (fun h=>h.elim (fun h=>nomatch h) (fun h=>nomatch h))) .nil)) ⟨(zae _ _),(zae _ _),qb1⟩ (zae _ _) ?_;obtain⟨r60,g61,j161⟩:=bind_some j161;try simp only[rnA,Nat.reduceEqDiff,Nat.reduceLT,reduceCtorEq]
     refine EvL.fn (zcO g61) rfl rfl (.cons (zad _ _ (fun h=>nomatch h)) (.cons (zad _ _ (fun h=>nomatch h)) .nil)) ?_;try simp only[rnA,Nat.reduceEqDiff,Nat.reduceLT,reduceCtorEq]
     cases c62:(decide (r60≤0))
     ·rw[c62,cond_false]at j161;try simp only[rnA,Nat.reduceEqDiff,Nat.reduceLT,reduceCtorEq]
      exact⟨(v13,(w64 ((w64 ((w64 ((w64 (v13+v14))+1)).tdiv 2)) - 1))),j161,by rw[hT162]; exact wm0 [.k] ⟨MB.es (eI .i64) true l0,qb1⟩⟩
     rw[c62,cond_true]at j161;try simp only[rnA,Nat.reduceEqDiff,Nat.reduceLT,reduceCtorEq]
     exact⟨((w64 ((w64 ((w64 (v13+v14))+1)).tdiv 2)),v14),j161,by rw[hT162]; exact wm0 [.k] ⟨MB.es (eI .i64) true l0,qb1⟩⟩
    rintro v13 rfl;rw[congrFun hT161 v13];refine zaa ?_;obtain⟨x63,g64,j81⟩:=bind_some j81;obtain⟨y65,g66,j81⟩:=bind_some j81;try simp only[rnA,Nat.reduceEqDiff,Nat.reduceLT,Nat.reduceLeDiff,reduceCtorEq,el0,za3 g64,(show v9<(((Int.toNat (w64 ((p0.length:Int) - (w64 ((p1.length:Int) - 1))))):Nat):Int)from el0 ▸ zaY g64),zaB g64 ((eI .i64).c true),(show(l0.map ((eI .i64).c true)).set v9.toNat [(dI v13)]=y65.map ((eI .i64).c true)from za2 g66 ((eI .i64).c true))]
    refine EvL.zeH (S':=⟨124,[(0,(fzE false (eI .i64) p0)),(1,(fzE false (eI .i64) p1)),(6,(dI (w64 ((p1.length:Int) - 1)))),(7,(.sl 0 0 1 (Int.toNat (w64 ((p0.length:Int) - (w64 ((p1.length:Int) - 1))))) (some (Int.toNat (w64 ((p0.length:Int) - (w64 ((p1.length:Int) - 1)))))) (Int.toNat (w64 ((p0.length:Int) - (w64 ((p1.length:Int) - 1))))))),(9,(dI v9)),(114,(fzE false (eI .i64) r44)),(115,(fzE false (eI .i64) p1)),(117,(fzE true (eI .i64) [v13]))],[.els 1 (y65.map ((eI .i64).c true))]⟩) (zaV.m0 [.k,.f] rfl (msq (msq (msq (msq (msq (msq (msq (mf rfl (zcM (e:=(eI .i64)) (t:=true) rfl rfl (.inl rfl) rfl rfl (fun k h=>by cases h; exact qae _) (fun h=>by cases h<;>rfl)) trivial)))))))) ⟨MB.es (eI .i64) true y65,qb1⟩) (zaa ?_);obtain⟨r67,g68,j81⟩:=bind_some j81;try simp only[rnA]
    refine EvL.fnS (zbM g68) rfl rfl (.cons (zal _ _ (fun h=>h.elim (fun h=>nomatch h) (fun h=>nomatch h))) .nil) ⟨(zae _ _),qb1⟩ (zae _ _) ?_;obtain⟨r69,g70,j81⟩:=bind_some j81;try simp only[rnA,Nat.reduceLT]
    refine EvL.fnS (zcb g70) rfl rfl (.cons (zal _ _ (fun h=>h.elim (fun h=>nomatch h) (fun h=>nomatch h))) (.cons (zal _ _ (fun h=>h.elim (fun h=>nomatch h) (fun h=>nomatch h))) .nil)) ⟨(zae _ _),(zae _ _),qb1⟩ (zae _ _) ?_;obtain⟨r71,g72,j81⟩:=bind_some j81;try simp only[rnA,Nat.reduceLT]
    refine EvL.fnS (zeu g72) rfl rfl (.cons (zal _ _ (fun h=>h.elim (fun h=>nomatch h) (fun h=>nomatch h))) (.cons (zal _ _ (fun h=>h.elim (fun h=>nomatch h) (fun h=>nomatch h))) .nil)) ⟨(zae _ _),(zae _ _),qb1⟩ (zae _ _) ?_;try simp only[rnA,Nat.reduceEqDiff,Nat.reduceLT,reduceCtorEq]
    exact⟨(r71,(w64 (v9 - 1)),y65),⟨j81,(zaR g66).trans el0⟩,by rw[hT130]; exact wm0 [.k] ⟨MB.es (eI .i64) true y65,qb1⟩⟩
   rintro⟨v8,l0⟩ ⟨rfl,el0⟩;dsimp only at h;rw[congrFun hT81 (v8,l0)];refine zaa ?_;try simp only[rnA,Nat.reduceEqDiff,Nat.reduceLT]
   refine EvL.zeH (S':=⟨124,[(8,(fzE false (eI .i64) v8)),(121,(fzE true (eI .i64) l0))],[]⟩) (zaV.m0 [.f] rfl (msq (mf rfl (zcM (e:=(eI .i64)) (t:=true) rfl rfl (.inl rfl) (el0).symm (el0).symm (fun k h=>by cases h; exact qae _) (fun h=>by cases h<;>rfl)) trivial)) trivial) (zaa ?_);obtain⟨r73,g74,h⟩:=bind_some h;try simp only[rnA]
   refine EvL.fnS (zbM g74) rfl rfl (.cons (zal _ _ (fun h=>h.elim (fun h=>nomatch h) (fun h=>nomatch h))) .nil) ⟨(zae _ _),qb1⟩ (zae _ _) ?_;try simp only[rnA,Nat.reduceEqDiff,Nat.reduceLT]
   replace h:=qaa h; subst h;exact zfD.ret rfl (Snp.zb7 (.cons (zad _ _ (fun h=>nomatch h)) (.cons (zad _ _ (fun h=>nomatch h)) .nil)))
  rw[c6,cond_true]at h;try simp only[rnA,Nat.reduceEqDiff,Nat.reduceLT,Nat.reduceMul,reduceCtorEq,qbR,qaC,qae,qbI,zaN g3,(qbY.1 c6)]
  obtain⟨o259,j259,h⟩:=bind_some h;obtain⟨T259,hT259⟩:=mkT fun a:((List Int)×(List Int))=>⟨124,[(7,(.sl 0 0 1 (Int.toNat (w64 ((p0.length:Int) - (w64 ((p1.length:Int) - 1))))) (some (Int.toNat (w64 ((p0.length:Int) - (w64 ((p1.length:Int) - 1)))))) (Int.toNat (w64 ((p0.length:Int) - (w64 ((p1.length:Int) - 1))))))),(8,(fzE false (eI .i64) a.1))],[.els 1 (a.2.map ((eI .i64).c true))]⟩
  refine EvL.jn T259 (fun a=>a=o259∧a.2.length=(Int.toNat (w64 ((p0.length:Int) - (w64 ((p1.length:Int) - 1)))))) ?_ ?_
  ·refine zaa ?_;simp only[rnA];obtain⟨T324,hT324⟩:=mkT fun a:((List Int)×Int×(List Int))=>⟨124,[(0,(fzE false (eI .i64) p0)),(1,(fzE false (eI .i64) p1)),(6,(dI (w64 ((p1.length:Int) - 1)))),(7,(.sl 0 0 1 (Int.toNat (w64 ((p0.length:Int) - (w64 ((p1.length:Int) - 1))))) (some (Int.toNat (w64 ((p0.length:Int) - (w64 ((p1.length:Int) - 1)))))) (Int.toNat (w64 ((p0.length:Int) - (w64 ((p1.length:Int) - 1))))))),(8,(fzE false (eI .i64) a.1)),(9,(dI a.2.1))],[.els 1 (a.2.2.map ((eI .i64).c true))]⟩
   refine EvL.rounds (α:=((List Int)×Int×(List Int))) T324 (fun n a=>zdi N p0 p1 n a.1 a.2.1 a.2.2=some o259∧a.2.2.length=(Int.toNat (w64 ((p0.length:Int) - (w64 ((p1.length:Int) - 1)))))) ((w64 ((((Int.toNat (w64 ((p0.length:Int) - (w64 ((p1.length:Int) - 1))))):Nat):Int) - 1)) - 0+2:Int).toNat ([],(w64 ((((Int.toNat (w64 ((p0.length:Int) - (w64 ((p1.length:Int) - 1))))):Nat):Int) - 1)),y2) (by rw[hT324]; exact zaV.m0 [.k,.f] rfl (msq (msq (msq (msq (mf rfl (zcM (e:=(eI .i64)) (t:=true) rfl rfl (.inl rfl) rfl rfl (fun k h=>by cases h; exact qae _) (fun h=>by cases h<;>rfl)) (msq trivial)))))) ⟨MB.es (eI .i64) true y2,qb1⟩) ⟨j259,zaN g3⟩ (fun _ h=>nomatch (show(none:Option ((List Int)×(List Int)))=some o259 from h.1)) ?_;rintro n ⟨v8,v9,l0⟩ ⟨j259,el0⟩;simp only[zdi]at j259;rw[congrFun hT324 (v8,v9,l0)];refine zaa ?_;try simp only[rnA,Nat.reduceEqDiff,Nat.reduceLT,reduceCtorEq]
   cases c75:(decide (0≤v9))
   ·rw[c75,cond_false]at j259;try simp only[rnA]
    replace j259:=qaa j259; subst j259;exact⟨_,⟨rfl,el0⟩,by rw[hT259]; exact wm0 [.k] ⟨MB.es (eI .i64) true l0,qb1⟩⟩
   rw[c75,cond_true]at j259;obtain⟨x76,g77,j259⟩:=bind_some j259;try simp only[rnA,Nat.reduceEqDiff,Nat.reduceLT,Nat.reduceAdd,Nat.reduceLeDiff,reduceCtorEq,zak (n:=1) (e:=(eI .i64)) rfl g77,(show ∀ L,zku L 1 (fzE false (eI .i64) v8)=some (v8.map ((eI .i64).c true))from fun L=>ziX (e:=(eI .i64)) rfl _ L false)]
   cases c78:(v8.isEmpty)
   ·rw[c78,cond_false]at j259;obtain⟨y79,g80,j259⟩:=bind_some j259;try simp only[rnA,Nat.reduceLT,(zjO c78),(show 1+v8.length=y79.length from zbC g80),zcE g80,(show(y79.length≤1)=False from(show 1+v8.length=y79.length from zbC g80)▸ zqG c78 1),(show [(dI x76)]:: v8.map ((eI .i64).c true)=y79.map ((eI .i64).c true)from zcm g80 ((eI .i64).c true))]
    refine EvL.zeH (S':=⟨124,[(0,(fzE false (eI .i64) p0)),(1,(fzE false (eI .i64) p1)),(6,(dI (w64 ((p1.length:Int) - 1)))),(7,(.sl 0 0 1 (Int.toNat (w64 ((p0.length:Int) - (w64 ((p1.length:Int) - 1))))) (some (Int.toNat (w64 ((p0.length:Int) - (w64 ((p1.length:Int) - 1)))))) (Int.toNat (w64 ((p0.length:Int) - (w64 ((p1.length:Int) - 1))))))),(9,(dI v9)),(52,(fzE true (eI .i64) y79))],[.els 1 (l0.map ((eI .i64).c true))]⟩) (zaV.m0 [.k,.d,.f] rfl (msq (msq (msq (msq (msq (mf rfl (zcM (e:=(eI .i64)) (t:=true) rfl rfl (.inr rfl) rfl rfl (fun k h=>nomatch h) (fun h=>by cases h<;>rfl)) trivial)))))) ⟨MB.es (eI .i64) true l0,qb1⟩) (zaa ?_);obtain⟨r81,g82,j259⟩:=bind_some j259;try simp only[rnA]
    refine EvL.fnS (zbM g82) rfl rfl (.cons (zal _ _ (fun h=>h.elim (fun h=>nomatch h) (fun h=>nomatch h))) .nil) ⟨(zae _ _),qb1⟩ (zae _ _) ?_;try simp only[rnA,Nat.reduceEqDiff,Nat.reduceLT,reduceCtorEq]
    obtain⟨o331,j331,j259⟩:=bind_some j259;obtain⟨T331,hT331⟩:=mkT fun a:(Int×Int)=>⟨124,[(0,(fzE false (eI .i64) p0)),(1,(fzE false (eI .i64) p1)),(6,(dI (w64 ((p1.length:Int) - 1)))),(7,(.sl 0 0 1 (Int.toNat (w64 ((p0.length:Int) - (w64 ((p1.length:Int) - 1))))) (some (Int.toNat (w64 ((p0.length:Int) - (w64 ((p1.length:Int) - 1)))))) (Int.toNat (w64 ((p0.length:Int) - (w64 ((p1.length:Int) - 1))))))),(8,(fzE false (eI .i64) r81)),(9,(dI v9)),(10,(dI a.1)),(11,(dI a.2))],[.els 1 (l0.map ((eI .i64).c true))]⟩
    refine EvL.jn T331 (fun a=>a=o331) ?_ ?_
    ·refine zaa ?_;simp only[rnA];obtain⟨T336,hT336⟩:=mkT fun a:(Int×Int×Int)=>⟨124,[(0,(fzE false (eI .i64) p0)),(1,(fzE false (eI .i64) p1)),(6,(dI (w64 ((p1.length:Int) - 1)))),(7,(.sl 0 0 1 (Int.toNat (w64 ((p0.length:Int) - (w64 ((p1.length:Int) - 1))))) (some (Int.toNat (w64 ((p0.length:Int) - (w64 ((p1.length:Int) - 1)))))) (Int.toNat (w64 ((p0.length:Int) - (w64 ((p1.length:Int) - 1))))))),(8,(fzE false (eI .i64) r81)),(9,(dI v9)),(10,(dI a.1)),(11,(dI a.2.1)),(12,(dI a.2.2))],[.els 1 (l0.map ((eI .i64).c true))]⟩
     refine EvL.rounds (α:=(Int×Int×Int)) T336 (fun n a=>zd3 p1 r81 n a.1 a.2.1 a.2.2=some o331) ((w64 ((w64 ((p1.length:Int) - 1))+1)) - (zjc 0 (w64 ((w64 ((p1.length:Int) - 1)) - 1)))+2:Int).toNat (0,0,(w64 ((w64 ((p1.length:Int) - 1))+1))) (by rw[hT336]; exact wm0 [.k] ⟨MB.es (eI .i64) true l0,qb1⟩) j331 (fun _ h=>nomatch (show(none:Option (Int×Int))=some o331 from h)) ?_;rintro n ⟨v10,v11,v12⟩ j331;simp only[zd3]at j331;rw[congrFun hT336 (v10,v11,v12)];refine zaa ?_;try simp only[rnA,Nat.reduceEqDiff,Nat.reduceLT,reduceCtorEq]
     cases c83:(decide ((zjc 0 (w64 ((w64 ((p1.length:Int) - 1)) - 1)))≤v12))
     ·rw[c83,cond_false]at j331;try simp only[rnA,Nat.reduceEqDiff,Nat.reduceLT,reduceCtorEq]
      replace j331:=qaa j331; subst j331;exact lfj hT331 rfl (wm0 [.k] ⟨MB.es (eI .i64) true l0,qb1⟩)
     rw[c83,cond_true]at j331;try simp only[rnA,Nat.reduceEqDiff,Nat.reduceLT,reduceCtorEq,zam]
     obtain⟨o337,j337,j331⟩:=bind_some j331;obtain⟨T337,hT337⟩:=mkT fun a:Int=>⟨124,[(0,(fzE false (eI .i64) p0)),(1,(fzE false (eI .i64) p1)),(6,(dI (w64 ((p1.length:Int) - 1)))),(7,(.sl 0 0 1 (Int.toNat (w64 ((p0.length:Int) - (w64 ((p1.length:Int) - 1))))) (some (Int.toNat (w64 ((p0.length:Int) - (w64 ((p1.length:Int) - 1)))))) (Int.toNat (w64 ((p0.length:Int) - (w64 ((p1.length:Int) - 1))))))),(8,(fzE false (eI .i64) r81)),(9,(dI v9)),(10,(dI v10)),(11,(dI a)),(12,(dI v12))],[.els 1 (l0.map ((eI .i64).c true))]⟩
     refine EvL.jn T337 (fun a=>a=o337) ?_ ?_
     ·refine zaa ?_;try simp only[rnA,Nat.reduceEqDiff,reduceCtorEq]
      cases c84:(decide (v12<(r81.length:Int)))
      ·rw[c84,cond_false]at j337;try simp only[rnA]
       replace j337:=qaa j337; subst j337;exact lfj hT337 rfl (wm0 [.k] ⟨MB.es (eI .i64) true l0,qb1⟩)
      rw[c84,cond_true]at j337;obtain⟨x85,g86,j337⟩:=bind_some j337;try simp only[rnA,Nat.reduceEqDiff,Nat.reduceLT,reduceCtorEq,zak (n:=1) (e:=(eI .i64)) rfl g86]
      replace j337:=qaa j337; subst j337;exact lfj hT337 rfl (wm0 [.k] ⟨MB.es (eI .i64) true l0,qb1⟩)
     rintro v11' rfl;rw[congrFun hT337 v11'];refine zaa ?_;try simp only[rnA,Nat.reduceEqDiff,Nat.reduceLT,reduceCtorEq]
     obtain⟨o338,j338,j331⟩:=bind_some j331;obtain⟨T338,hT338⟩:=mkT fun a:Int=>⟨124,[(0,(fzE false (eI .i64) p0)),(1,(fzE false (eI .i64) p1)),(6,(dI (w64 ((p1.length:Int) - 1)))),(7,(.sl 0 0 1 (Int.toNat (w64 ((p0.length:Int) - (w64 ((p1.length:Int) - 1))))) (some (Int.toNat (w64 ((p0.length:Int) - (w64 ((p1.length:Int) - 1)))))) (Int.toNat (w64 ((p0.length:Int) - (w64 ((p1.length:Int) - 1))))))),(8,(fzE false (eI .i64) r81)),(9,(dI v9)),(10,(dI a)),(11,(dI v11')),(12,(dI v12))],[.els 1 (l0.map ((eI .i64).c true))]⟩
     refine EvL.jn T338 (fun a=>a=o338) ?_ ?_
     ·refine zaa ?_;try simp only[rnA,Nat.reduceEqDiff,reduceCtorEq]
      cases c87:(decide (v12≤(w64 ((p1.length:Int) - 1))))
      ·rw[c87,cond_false]at j338;try simp only[rnA]
       replace j338:=qaa j338; subst j338;exact lfj hT338 rfl (wm0 [.k] ⟨MB.es (eI .i64) true l0,qb1⟩)
      rw[c87,cond_true]at j338;obtain⟨x88,g89,j338⟩:=bind_some j338;try simp only[rnA,Nat.reduceEqDiff,Nat.reduceLT,reduceCtorEq,zak (n:=1) (e:=(eI .i64)) rfl g89]
      replace j338:=qaa j338; subst j338;exact lfj hT338 rfl (wm0 [.k] ⟨MB.es (eI .i64) true l0,qb1⟩)
     rintro v10' rfl;rw[congrFun hT338 v10'];refine zaa ?_;try simp only[rnA,Nat.reduceEqDiff,Nat.reduceLT,reduceCtorEq]
     exact⟨(v10',v11',(w64 (v12 - 1))),j331,by rw[hT336]; exact wm0 [.k] ⟨MB.es (eI .i64) true l0,qb1⟩⟩
    rintro⟨v10,v11⟩ rfl;dsimp only at j259;rw[congrFun hT331 (v10,v11)];refine zaa ?_;obtain⟨q90,g91,j259⟩:=bind_some j259;obtain⟨q92,g93,j259⟩:=bind_some j259;try simp only[rnA,Nat.reduceEqDiff,Nat.reduceLT,reduceCtorEq,zce g91,zcq g91,zce g93,zcq g93]
    obtain⟨o339,j339,j259⟩:=bind_some j259;obtain⟨T339,hT339⟩:=mkT fun a:Int=>⟨124,[(0,(fzE false (eI .i64) p0)),(1,(fzE false (eI .i64) p1)),(6,(dI (w64 ((p1.length:Int) - 1)))),(7,(.sl 0 0 1 (Int.toNat (w64 ((p0.length:Int) - (w64 ((p1.length:Int) - 1))))) (some (Int.toNat (w64 ((p0.length:Int) - (w64 ((p1.length:Int) - 1)))))) (Int.toNat (w64 ((p0.length:Int) - (w64 ((p1.length:Int) - 1))))))),(8,(fzE false (eI .i64) r81)),(9,(dI v9)),(13,(dI a))],[.els 1 (l0.map ((eI .i64).c true))]⟩
    refine EvL.jn T339 (fun a=>a=o339) ?_ ?_
    ·refine zaa ?_;simp only[rnA];obtain⟨T340,hT340⟩:=mkT fun a:(Int×Int)=>⟨124,[(0,(fzE false (eI .i64) p0)),(1,(fzE false (eI .i64) p1)),(6,(dI (w64 ((p1.length:Int) - 1)))),(7,(.sl 0 0 1 (Int.toNat (w64 ((p0.length:Int) - (w64 ((p1.length:Int) - 1))))) (some (Int.toNat (w64 ((p0.length:Int) - (w64 ((p1.length:Int) - 1)))))) (Int.toNat (w64 ((p0.length:Int) - (w64 ((p1.length:Int) - 1))))))),(8,(fzE false (eI .i64) r81)),(9,(dI v9)),(13,(dI a.1)),(14,(dI a.2))],[.els 1 (l0.map ((eI .i64).c true))]⟩
     refine EvL.rounds (α:=(Int×Int)) T340 (fun n a=>zdh N p1 r81 n a.1 a.2=some o339) (q92 - q90+2:Int).toNat (q90,q92) (by rw[hT340]; exact wm0 [.k] ⟨MB.es (eI .i64) true l0,qb1⟩) j339 (fun _ h=>nomatch (show(none:Option Int)=some o339 from h)) ?_;rintro n ⟨v13,v14⟩ j339;simp only[zdh]at j339;rw[congrFun hT340 (v13,v14)];refine zaa ?_;try simp only[rnA,Nat.reduceEqDiff,Nat.reduceLT,reduceCtorEq]
     cases c94:(decide (v13<v14))
     ·rw[c94,cond_false]at j339;try simp only[rnA,Nat.reduceEqDiff,Nat.reduceLT,reduceCtorEq]
      replace j339:=qaa j339; subst j339;exact lfj hT339 rfl (wm0 [.k] ⟨MB.es (eI .i64) true l0,qb1⟩)
     rw[c94,cond_true]at j339;try simp only[rnA,Nat.reduceEqDiff,Nat.reduceLT,Int.reduceBEq,reduceCtorEq]
     refine EvL.zeH (S':=⟨124,[(0,(fzE false (eI .i64) p0)),(1,(fzE false (eI .i64) p1)),(6,(dI (w64 ((p1.length:Int) - 1)))),(7,(.sl 0 0 1 (Int.toNat (w64 ((p0.length:Int) - (w64 ((p1.length:Int) - 1))))) (some (Int.toNat (w64 ((p0.length:Int) - (w64 ((p1.length:Int) - 1)))))) (Int.toNat (w64 ((p0.length:Int) - (w64 ((p1.length:Int) - 1))))))),(8,(fzE false (eI .i64) r81)),(9,(dI v9)),(13,(dI v13)),(14,(dI v14)),(15,(dI (w64 ((w64 ((w64 (v13+v14))+1)).tdiv 2)))),(100,(fzE false (eI .i64) p1)),(102,(fzE true (eI .i64) [(w64 ((w64 ((w64 (v13+v14))+1)).tdiv 2))]))],[.els 1 (l0.map ((eI .i64).c true))]⟩) (zaV.m0 [.k,.f] rfl (msq (msq (msq (msq (msq (msq (msq (msq (msq (msq (mf rfl (zcM (e:=(eI .i64)) (t:=true) rfl rfl (.inl rfl) rfl rfl (fun k h=>by cases h; exact qae _) (fun h=>by cases h<;>rfl)) trivial))))))))))) ⟨MB.es (eI .i64) true l0,qb1⟩) (zaa ?_);obtain⟨r95,g96,j339⟩:=bind_some j339;try simp only[rnA]
     refine EvL.fnS (zcb g96) rfl rfl (.cons (zal _ _ (fun h=>h.elim (fun h=>nomatch h) (fun h=>nomatch h))) (.cons (zal _ _ (fun h=>h.elim (fun h=>nomatch h) (fun h=>nomatch h))) .nil)) ⟨(zae _ _),(zae _ _),qb1⟩ (zae _ _) ?_;obtain⟨r97,g98,j339⟩:=bind_some j339;try simp only[rnA,Nat.reduceEqDiff,Nat.reduceLT,reduceCtorEq]
     refine EvL.fn (zcO g98) rfl rfl (.cons (zad _ _ (fun h=>nomatch h)) (.cons (zad _ _ (fun h=>nomatch h)) .nil)) ?_;try simp only[rnA,Nat.reduceEqDiff,Nat.reduceLT,reduceCtorEq]
     cases c99:(decide (r97≤0))
     ·rw[c99,cond_false]at j339;try simp only[rnA,Nat.reduceEqDiff,Nat.reduceLT,reduceCtorEq]
      exact⟨(v13,(w64 ((w64 ((w64 ((w64 (v13+v14))+1)).tdiv 2)) - 1))),j339,by rw[hT340]; exact wm0 [.k] ⟨MB.es (eI .i64) true l0,qb1⟩⟩
     rw[c99,cond_true]at j339;try simp only[rnA,Nat.reduceEqDiff,Nat.reduceLT,reduceCtorEq]
     exact⟨((w64 ((w64 ((w64 (v13+v14))+1)).tdiv 2)),v14),j339,by rw[hT340]; exact wm0 [.k] ⟨MB.es (eI .i64) true l0,qb1⟩⟩
    rintro v13 rfl;rw[congrFun hT339 v13];refine zaa ?_;obtain⟨x100,g101,j259⟩:=bind_some j259;obtain⟨y102,g103,j259⟩:=bind_some j259;try simp only[rnA,Nat.reduceEqDiff,Nat.reduceLT,Nat.reduceLeDiff,reduceCtorEq,el0,za3 g101,(show v9<(((Int.toNat (w64 ((p0.length:Int) - (w64 ((p1.length:Int) - 1))))):Nat):Int)from el0 ▸ zaY g101),zaB g101 ((eI .i64).c true),(show(l0.map ((eI .i64).c true)).set v9.toNat [(dI v13)]=y102.map ((eI .i64).c true)from za2 g103 ((eI .i64).c true))]
    refine EvL.zeH (S':=⟨124,[(0,(fzE false (eI .i64) p0)),(1,(fzE false (eI .i64) p1)),(6,(dI (w64 ((p1.length:Int) - 1)))),(7,(.sl 0 0 1 (Int.toNat (w64 ((p0.length:Int) - (w64 ((p1.length:Int) - 1))))) (some (Int.toNat (w64 ((p0.length:Int) - (w64 ((p1.length:Int) - 1)))))) (Int.toNat (w64 ((p0.length:Int) - (w64 ((p1.length:Int) - 1))))))),(9,(dI v9)),(114,(fzE false (eI .i64) r81)),(115,(fzE false (eI .i64) p1)),(117,(fzE true (eI .i64) [v13]))],[.els 1 (y102.map ((eI .i64).c true))]⟩) (zaV.m0 [.k,.f] rfl (msq (msq (msq (msq (msq (msq (msq (mf rfl (zcM (e:=(eI .i64)) (t:=true) rfl rfl (.inl rfl) rfl rfl (fun k h=>by cases h; exact qae _) (fun h=>by cases h<;>rfl)) trivial)))))))) ⟨MB.es (eI .i64) true y102,qb1⟩) (zaa ?_);obtain⟨r104,g105,j259⟩:=bind_some j259;try simp only[rnA]
    refine EvL.fnS (zbM g105) rfl rfl (.cons (zal _ _ (fun h=>h.elim (fun h=>nomatch h) (fun h=>nomatch h))) .nil) ⟨(zae _ _),qb1⟩ (zae _ _) ?_;obtain⟨r106,g107,j259⟩:=bind_some j259;try simp only[rnA,Nat.reduceLT]
    refine EvL.fnS (zcb g107) rfl rfl (.cons (zal _ _ (fun h=>h.elim (fun h=>nomatch h) (fun h=>nomatch h))) (.cons (zal _ _ (fun h=>h.elim (fun h=>nomatch h) (fun h=>nomatch h))) .nil)) ⟨(zae _ _),(zae _ _),qb1⟩ (zae _ _) ?_;obtain⟨r108,g109,j259⟩:=bind_some j259;try simp only[rnA,Nat.reduceLT]
    refine EvL.fnS (zeu g109) rfl rfl (.cons (zal _ _ (fun h=>h.elim (fun h=>nomatch h) (fun h=>nomatch h))) (.cons (zal _ _ (fun h=>h.elim (fun h=>nomatch h) (fun h=>nomatch h))) .nil)) ⟨(zae _ _),(zae _ _),qb1⟩ (zae _ _) ?_;try simp only[rnA,Nat.reduceEqDiff,Nat.reduceLT,reduceCtorEq]
    exact⟨(r108,(w64 (v9 - 1)),y102),⟨j259,(zaR g103).trans el0⟩,by rw[hT324]; exact wm0 [.k] ⟨MB.es (eI .i64) true y102,qb1⟩⟩
   rw[c78,cond_true]at j259;try simp only[rnA,Nat.reduceLT,Nat.reduceMul,qbR,qaC,qae,qbI,(qbY.1 c78)]
   refine EvL.zeH (S':=⟨124,[(0,(fzE false (eI .i64) p0)),(1,(fzE false (eI .i64) p1)),(6,(dI (w64 ((p1.length:Int) - 1)))),(7,(.sl 0 0 1 (Int.toNat (w64 ((p0.length:Int) - (w64 ((p1.length:Int) - 1))))) (some (Int.toNat (w64 ((p0.length:Int) - (w64 ((p1.length:Int) - 1)))))) (Int.toNat (w64 ((p0.length:Int) - (w64 ((p1.length:Int) - 1))))))),(9,(dI v9)),(52,(fzE true (eI .i64) [x76]))],[.els 1 (l0.map ((eI .i64).c true))]⟩) (zaV.m0 [.k,.f] rfl (msq (msq (msq (msq (msq (mf rfl (zcM (e:=(eI .i64)) (t:=true) rfl rfl (.inl rfl) rfl rfl (fun k h=>by cases h; exact qae _) (fun h=>by cases h<;>rfl)) trivial)))))) ⟨MB.es (eI .i64) true l0,qb1⟩) (zaa ?_);obtain⟨r110,g111,j259⟩:=bind_some j259;try simp only[rnA]
   refine EvL.fnS (zbM g111) rfl rfl (.cons (zal _ _ (fun h=>h.elim (fun h=>nomatch h) (fun h=>nomatch h))) .nil) ⟨(zae _ _),qb1⟩ (zae _ _) ?_;try simp only[rnA,Nat.reduceEqDiff,Nat.reduceLT,reduceCtorEq]
   obtain⟨o347,j347,j259⟩:=bind_some j259;obtain⟨T347,hT347⟩:=mkT fun a:(Int×Int)=>⟨124,[(0,(fzE false (eI .i64) p0)),(1,(fzE false (eI .i64) p1)),(6,(dI (w64 ((p1.length:Int) - 1)))),(7,(.sl 0 0 1 (Int.toNat (w64 ((p0.length:Int) - (w64 ((p1.length:Int) - 1))))) (some (Int.toNat (w64 ((p0.length:Int) - (w64 ((p1.length:Int) - 1)))))) (Int.toNat (w64 ((p0.length:Int) - (w64 ((p1.length:Int) - 1))))))),(8,(fzE false (eI .i64) r110)),(9,(dI v9)),(10,(dI a.1)),(11,(dI a.2))],[.els 1 (l0.map ((eI .i64).c true))]⟩
   refine EvL.jn T347 (fun a=>a=o347) ?_ ?_
   ·refine zaa ?_;simp only[rnA];obtain⟨T352,hT352⟩:=mkT fun a:(Int×Int×Int)=>⟨124,[(0,(fzE false (eI .i64) p0)),(1,(fzE false (eI .i64) p1)),(6,(dI (w64 ((p1.length:Int) - 1)))),(7,(.sl 0 0 1 (Int.toNat (w64 ((p0.length:Int) - (w64 ((p1.length:Int) - 1))))) (some (Int.toNat (w64 ((p0.length:Int) - (w64 ((p1.length:Int) - 1)))))) (Int.toNat (w64 ((p0.length:Int) - (w64 ((p1.length:Int) - 1))))))),(8,(fzE false (eI .i64) r110)),(9,(dI v9)),(10,(dI a.1)),(11,(dI a.2.1)),(12,(dI a.2.2))],[.els 1 (l0.map ((eI .i64).c true))]⟩
    refine EvL.rounds (α:=(Int×Int×Int)) T352 (fun n a=>zd5 p1 r110 n a.1 a.2.1 a.2.2=some o347) ((w64 ((w64 ((p1.length:Int) - 1))+1)) - (zjc 0 (w64 ((w64 ((p1.length:Int) - 1)) - 1)))+2:Int).toNat (0,0,(w64 ((w64 ((p1.length:Int) - 1))+1))) (by rw[hT352]; exact wm0 [.k] ⟨MB.es (eI .i64) true l0,qb1⟩) j347 (fun _ h=>nomatch (show(none:Option (Int×Int))=some o347 from h)) ?_;rintro n ⟨v10,v11,v12⟩ j347;simp only[zd5]at j347;rw[congrFun hT352 (v10,v11,v12)];refine zaa ?_;try simp only[rnA,Nat.reduceEqDiff,Nat.reduceLT,reduceCtorEq]
    cases c112:(decide ((zjc 0 (w64 ((w64 ((p1.length:Int) - 1)) - 1)))≤v12))
    ·rw[c112,cond_false]at j347;try simp only[rnA,Nat.reduceEqDiff,Nat.reduceLT,reduceCtorEq]
     replace j347:=qaa j347; subst j347;exact lfj hT347 rfl (wm0 [.k] ⟨MB.es (eI .i64) true l0,qb1⟩)
    rw[c112,cond_true]at j347;try simp only[rnA,Nat.reduceEqDiff,Nat.reduceLT,reduceCtorEq,zam]
    obtain⟨o353,j353,j347⟩:=bind_some j347;obtain⟨T353,hT353⟩:=mkT fun a:Int=>⟨124,[(0,(fzE false (eI .i64) p0)),(1,(fzE false (eI .i64) p1)),(6,(dI (w64 ((p1.length:Int) - 1)))),(7,(.sl 0 0 1 (Int.toNat (w64 ((p0.length:Int) - (w64 ((p1.length:Int) - 1))))) (some (Int.toNat (w64 ((p0.length:Int) - (w64 ((p1.length:Int) - 1)))))) (Int.toNat (w64 ((p0.length:Int) - (w64 ((p1.length:Int) - 1))))))),(8,(fzE false (eI .i64) r110)),(9,(dI v9)),(10,(dI v10)),(11,(dI a)),(12,(dI v12))],[.els 1 (l0.map ((eI .i64).c true))]⟩
    refine EvL.jn T353 (fun a=>a=o353) ?_ ?_
    ·refine zaa ?_;try simp only[rnA,Nat.reduceEqDiff,reduceCtorEq]
     cases c113:(decide (v12<(r110.length:Int)))
     ·rw[c113,cond_false]at j353;try simp only[rnA]
      replace j353:=qaa j353; subst j353;exact lfj hT353 rfl (wm0 [.k] ⟨MB.es (eI .i64) true l0,qb1⟩)
     rw[c113,cond_true]at j353;obtain⟨x114,g115,j353⟩:=bind_some j353;try simp only[rnA,Nat.reduceEqDiff,Nat.reduceLT,reduceCtorEq,zak (n:=1) (e:=(eI .i64)) rfl g115]
     replace j353:=qaa j353; subst j353;exact lfj hT353 rfl (wm0 [.k] ⟨MB.es (eI .i64) true l0,qb1⟩)
    rintro v11' rfl;rw[congrFun hT353 v11'];refine zaa ?_;try simp only[rnA,Nat.reduceEqDiff,Nat.reduceLT,reduceCtorEq]
    obtain⟨o354,j354,j347⟩:=bind_some j347;obtain⟨T354,hT354⟩:=mkT fun a:Int=>⟨124,[(0,(fzE false (eI .i64) p0)),(1,(fzE false (eI .i64) p1)),(6,(dI (w64 ((p1.length:Int) - 1)))),(7,(.sl 0 0 1 (Int.toNat (w64 ((p0.length:Int) - (w64 ((p1.length:Int) - 1))))) (some (Int.toNat (w64 ((p0.length:Int) - (w64 ((p1.length:Int) - 1)))))) (Int.toNat (w64 ((p0.length:Int) - (w64 ((p1.length:Int) - 1))))))),(8,(fzE false (eI .i64) r110)),(9,(dI v9)),(10,(dI a)),(11,(dI v11')),(12,(dI v12))],[.els 1 (l0.map ((eI .i64).c true))]⟩
    refine EvL.jn T354 (fun a=>a=o354) ?_ ?_
    ·refine zaa ?_;try simp only[rnA,Nat.reduceEqDiff,reduceCtorEq]
     cases c116:(decide (v12≤(w64 ((p1.length:Int) - 1))))
     ·rw[c116,cond_false]at j354;try simp only[rnA]
      replace j354:=qaa j354; subst j354;exact lfj hT354 rfl (wm0 [.k] ⟨MB.es (eI .i64) true l0,qb1⟩)
     rw[c116,cond_true]at j354;obtain⟨x117,g118,j354⟩:=bind_some j354;try simp only[rnA,Nat.reduceEqDiff,Nat.reduceLT,reduceCtorEq,zak (n:=1) (e:=(eI .i64)) rfl g118]
     replace j354:=qaa j354; subst j354;exact lfj hT354 rfl (wm0 [.k] ⟨MB.es (eI .i64) true l0,qb1⟩)
    rintro v10' rfl;rw[congrFun hT354 v10'];refine zaa ?_;try simp only[rnA,Nat.reduceEqDiff,Nat.reduceLT,reduceCtorEq]
    exact⟨(v10',v11',(w64 (v12 - 1))),j347,by rw[hT352]; exact wm0 [.k] ⟨MB.es (eI .i64) true l0,qb1⟩⟩
   rintro⟨v10,v11⟩ rfl;dsimp only at j259;rw[congrFun hT347 (v10,v11)];refine zaa ?_;obtain⟨q119,g120,j259⟩:=bind_some j259;obtain⟨q121,g122,j259⟩:=bind_some j259;try simp only[rnA,Nat.reduceEqDiff,Nat.reduceLT,reduceCtorEq,zce g120,zcq g120,zce g122,zcq g122]
   obtain⟨o355,j355,j259⟩:=bind_some j259;obtain⟨T355,hT355⟩:=mkT fun a:Int=>⟨124,[(0,(fzE false (eI .i64) p0)),(1,(fzE false (eI .i64) p1)),(6,(dI (w64 ((p1.length:Int) - 1)))),(7,(.sl 0 0 1 (Int.toNat (w64 ((p0.length:Int) - (w64 ((p1.length:Int) - 1))))) (some (Int.toNat (w64 ((p0.length:Int) - (w64 ((p1.length:Int) - 1)))))) (Int.toNat (w64 ((p0.length:Int) - (w64 ((p1.length:Int) - 1))))))),(8,(fzE false (eI .i64) r110)),(9,(dI v9)),(13,(dI a))],[.els 1 (l0.map ((eI .i64).c true))]⟩
   refine EvL.jn T355 (fun a=>a=o355) ?_ ?_
   ·refine zaa ?_;simp only[rnA];obtain⟨T356,hT356⟩:=mkT fun a:(Int×Int)=>⟨124,[(0,(fzE false (eI .i64) p0)),(1,(fzE false (eI .i64) p1)),(6,(dI (w64 ((p1.length:Int) - 1)))),(7,(.sl 0 0 1 (Int.toNat (w64 ((p0.length:Int) - (w64 ((p1.length:Int) - 1))))) (some (Int.toNat (w64 ((p0.length:Int) - (w64 ((p1.length:Int) - 1)))))) (Int.toNat (w64 ((p0.length:Int) - (w64 ((p1.length:Int) - 1))))))),(8,(fzE false (eI .i64) r110)),(9,(dI v9)),(13,(dI a.1)),(14,(dI a.2))],[.els 1 (l0.map ((eI .i64).c true))]⟩
    refine EvL.rounds (α:=(Int×Int)) T356 (fun n a=>zcR N p1 r110 n a.1 a.2=some o355) (q121 - q119+2:Int).toNat (q119,q121) (by rw[hT356]; exact wm0 [.k] ⟨MB.es (eI .i64) true l0,qb1⟩) j355 (fun _ h=>nomatch (show(none:Option Int)=some o355 from h)) ?_;rintro n ⟨v13,v14⟩ j355;simp only[zcR]at j355;rw[congrFun hT356 (v13,v14)];refine zaa ?_;try simp only[rnA,Nat.reduceEqDiff,Nat.reduceLT,reduceCtorEq]
    cases c123:(decide (v13<v14))
    ·rw[c123,cond_false]at j355;try simp only[rnA,Nat.reduceEqDiff,Nat.reduceLT,reduceCtorEq]
     replace j355:=qaa j355; subst j355;exact lfj hT355 rfl (wm0 [.k] ⟨MB.es (eI .i64) true l0,qb1⟩)
    rw[c123,cond_true]at j355;try simp only[rnA,Nat.reduceEqDiff,Nat.reduceLT,Int.reduceBEq,reduceCtorEq]
    refine EvL.zeH (S':=⟨124,[(0,(fzE false (eI .i64) p0)),(1,(fzE false (eI .i64) p1)),(6,(dI (w64 ((p1.length:Int) - 1)))),(7,(.sl 0 0 1 (Int.toNat (w64 ((p0.length:Int) - (w64 ((p1.length:Int) - 1))))) (some (Int.toNat (w64 ((p0.length:Int) - (w64 ((p1.length:Int) - 1)))))) (Int.toNat (w64 ((p0.length:Int) - (w64 ((p1.length:Int) - 1))))))),(8,(fzE false (eI .i64) r110)),(9,(dI v9)),(13,(dI v13)),(14,(dI v14)),(15,(dI (w64 ((w64 ((w64 (v13+v14))+1)).tdiv 2)))),(100,(fzE false (eI .i64) p1)),(102,(fzE true (eI .i64) [(w64 ((w64 ((w64 (v13+v14))+1)).tdiv 2))]))],[.els 1 (l0.map ((eI .i64).c true))]⟩) (zaV.m0 [.k,.f] rfl (msq (msq (msq (msq (msq (msq (msq (msq (msq (msq (mf rfl (zcM (e:=(eI .i64)) (t:=true) rfl rfl (.inl rfl) rfl rfl (fun k h=>by cases h; exact qae _) (fun h=>by cases h<;>rfl)) trivial))))))))))) ⟨MB.es (eI .i64) true l0,qb1⟩) (zaa ?_);obtain⟨r124,g125,j355⟩:=bind_some j355;try simp only[rnA]
    refine EvL.fnS (zcb g125) rfl rfl (.cons (zal _ _ (fun h=>h.elim (fun h=>nomatch h) (fun h=>nomatch h))) (.cons (zal _ _ (fun h=>h.elim (fun h=>nomatch h) (fun h=>nomatch h))) .nil)) ⟨(zae _ _),(zae _ _),qb1⟩ (zae _ _) ?_;obtain⟨r126,g127,j355⟩:=bind_some j355;try simp only[rnA,Nat.reduceEqDiff,Nat.reduceLT,reduceCtorEq]
    refine EvL.fn (zcO g127) rfl rfl (.cons (zad _ _ (fun h=>nomatch h)) (.cons (zad _ _ (fun h=>nomatch h)) .nil)) ?_;try simp only[rnA,Nat.reduceEqDiff,Nat.reduceLT,reduceCtorEq]
    cases c128:(decide (r126≤0))
    ·rw[c128,cond_false]at j355;try simp only[rnA,Nat.reduceEqDiff,Nat.reduceLT,reduceCtorEq]
     exact⟨(v13,(w64 ((w64 ((w64 ((w64 (v13+v14))+1)).tdiv 2)) - 1))),j355,by rw[hT356]; exact wm0 [.k] ⟨MB.es (eI .i64) true l0,qb1⟩⟩
    rw[c128,cond_true]at j355;try simp only[rnA,Nat.reduceEqDiff,Nat.reduceLT,reduceCtorEq]
    exact⟨((w64 ((w64 ((w64 (v13+v14))+1)).tdiv 2)),v14),j355,by rw[hT356]; exact wm0 [.k] ⟨MB.es (eI .i64) true l0,qb1⟩⟩
   rintro v13 rfl;rw[congrFun hT355 v13];refine zaa ?_;obtain⟨x129,g130,j259⟩:=bind_some j259;obtain⟨y131,g132,j259⟩:=bind_some j259;try simp only[rnA,Nat.reduceEqDiff,Nat.reduceLT,Nat.reduceLeDiff,reduceCtorEq,el0,za3 g130,(show v9<(((Int.toNat (w64 ((p0.length:Int) - (w64 ((p1.length:Int) - 1))))):Nat):Int)from el0 ▸ zaY g130),zaB g130 ((eI .i64).c true),(show(l0.map ((eI .i64).c true)).set v9.toNat [(dI v13)]=y131.map ((eI .i64).c true)from za2 g132 ((eI .i64).c true))]
   refine EvL.zeH (S':=⟨124,[(0,(fzE false (eI .i64) p0)),(1,(fzE false (eI .i64) p1)),(6,(dI (w64 ((p1.length:Int) - 1)))),(7,(.sl 0 0 1 (Int.toNat (w64 ((p0.length:Int) - (w64 ((p1.length:Int) - 1))))) (some (Int.toNat (w64 ((p0.length:Int) - (w64 ((p1.length:Int) - 1)))))) (Int.toNat (w64 ((p0.length:Int) - (w64 ((p1.length:Int) - 1))))))),(9,(dI v9)),(114,(fzE false (eI .i64) r110)),(115,(fzE false (eI .i64) p1)),(117,(fzE true (eI .i64) [v13]))],[.els 1 (y131.map ((eI .i64).c true))]⟩) (zaV.m0 [.k,.f] rfl (msq (msq (msq (msq (msq (msq (msq (mf rfl (zcM (e:=(eI .i64)) (t:=true) rfl rfl (.inl rfl) rfl rfl (fun k h=>by cases h; exact qae _) (fun h=>by cases h<;>rfl)) trivial)))))))) ⟨MB.es (eI .i64) true y131,qb1⟩) (zaa ?_);obtain⟨r133,g134,j259⟩:=bind_some j259;try simp only[rnA]
   refine EvL.fnS (zbM g134) rfl rfl (.cons (zal _ _ (fun h=>h.elim (fun h=>nomatch h) (fun h=>nomatch h))) .nil) ⟨(zae _ _),qb1⟩ (zae _ _) ?_;obtain⟨r135,g136,j259⟩:=bind_some j259;try simp only[rnA,Nat.reduceLT]
   refine EvL.fnS (zcb g136) rfl rfl (.cons (zal _ _ (fun h=>h.elim (fun h=>nomatch h) (fun h=>nomatch h))) (.cons (zal _ _ (fun h=>h.elim (fun h=>nomatch h) (fun h=>nomatch h))) .nil)) ⟨(zae _ _),(zae _ _),qb1⟩ (zae _ _) ?_;obtain⟨r137,g138,j259⟩:=bind_some j259;try simp only[rnA,Nat.reduceLT]
   refine EvL.fnS (zeu g138) rfl rfl (.cons (zal _ _ (fun h=>h.elim (fun h=>nomatch h) (fun h=>nomatch h))) (.cons (zal _ _ (fun h=>h.elim (fun h=>nomatch h) (fun h=>nomatch h))) .nil)) ⟨(zae _ _),(zae _ _),qb1⟩ (zae _ _) ?_;try simp only[rnA,Nat.reduceEqDiff,Nat.reduceLT,reduceCtorEq]
   exact⟨(r137,(w64 (v9 - 1)),y131),⟨j259,(zaR g132).trans el0⟩,by rw[hT324]; exact wm0 [.k] ⟨MB.es (eI .i64) true y131,qb1⟩⟩
  rintro⟨v8,l0⟩ ⟨rfl,el0⟩;dsimp only at h;rw[congrFun hT259 (v8,l0)];refine zaa ?_;try simp only[rnA,Nat.reduceEqDiff,Nat.reduceLT]
  refine EvL.zeH (S':=⟨124,[(8,(fzE false (eI .i64) v8)),(121,(fzE true (eI .i64) l0))],[]⟩) (zaV.m0 [.f] rfl (msq (mf rfl (zcM (e:=(eI .i64)) (t:=true) rfl rfl (.inl rfl) (el0).symm (el0).symm (fun k h=>by cases h; exact qae _) (fun h=>by cases h<;>rfl)) trivial)) trivial) (zaa ?_);obtain⟨r139,g140,h⟩:=bind_some h;try simp only[rnA]
  refine EvL.fnS (zbM g140) rfl rfl (.cons (zal _ _ (fun h=>h.elim (fun h=>nomatch h) (fun h=>nomatch h))) .nil) ⟨(zae _ _),qb1⟩ (zae _ _) ?_;try simp only[rnA,Nat.reduceEqDiff,Nat.reduceLT]
  replace h:=qaa h; subst h;exact zfD.ret rfl (Snp.zb7 (.cons (zad _ _ (fun h=>nomatch h)) (.cons (zad _ _ (fun h=>nomatch h)) .nil)))
 rw[c1,cond_true]at h;try simp only[rnA,Nat.reduceEqDiff,Nat.reduceLT,Nat.reduceLeDiff,reduceCtorEq,(show ∀ L,zku L 1 (fzE false (eI .i64) p0)=some (p0.map ((eI .i64).c true))from fun L=>ziX (e:=(eI .i64)) rfl _ L false)]
 cases c141:(p0.isEmpty)
 ·rw[c141,cond_false]at h;obtain⟨y142,g143,h⟩:=bind_some h;try simp only[rnA,Nat.reduceEqDiff,Nat.reduceLT,reduceCtorEq,qaC,qbI,(zjO c141),(zqT c141),zik g143]
  replace h:=qaa h; subst h;exact zfD.ret rfl (Snp.zb7 (.cons (zah (eI .i64)) (.cons (zaj (e:=(eI .i64)) (t:=true) rfl (.inr rfl) rfl rfl (fun k h=>nomatch h) (fun h=>nomatch h)) .nil)))
 rw[c141,cond_true]at h;try simp only[rnA,Nat.reduceEqDiff,Nat.reduceLT,Nat.reduceMul,reduceCtorEq,qbR,qaC,qae,qbI,(qbY.1 c141)]
 replace h:=qaa h; subst h;exact zfD.ret rfl (Snp.zb7 (.cons (zah (eI .i64)) (.cons (zaj (e:=(eI .i64)) (t:=true) rfl (.inl rfl) rfl rfl (fun k h=>by cases h; exact qae _) (fun h=>nomatch h)) .nil)))
def zf4(N:Nat):Nat→(List Int)→(List Int)→Option (List Int)
 | 0,_,_=>none
 | n+1,v0,v1=>(
bif (decide (0<(v1.length:Int)))then(
(zdP N v0 v1).bind fun r2=>
zf4 N n v1 r2.2)
else(
some v0))
def ziv(N:Nat)(p0:(List Int))(p1:(List Int)):Option (List Int):=
((zf4 N N p0 p1:Option (List Int))).bind fun v0=>
some v0
theorem znw{N:Nat}{p0:(List Int)}{p1:(List Int)}{r:(List Int)}(h:ziv N p0 p1=some r):Lx.FnA mC 166 [(fzE false (eI .i64) p0),(fzE false (eI .i64) p1)] (fzE false (eI .i64) r):=by
 refine zqN (by conv=>lhs; cbv) ?_;unfold ziv at h;refine zaa ?_;try simp only[rnA,Nat.reduceEqDiff,reduceIte,Nat.reduceLT,Nat.reduceAdd,Nat.reduceLeDiff,Nat.reduceMul,Nat.reduceSub,Int.reduceLE,Int.reduceLT,Int.reduceBEq,Nat.reduceBEq,reduceCtorEq]
 obtain⟨o1,j1,h⟩:=bind_some h;obtain⟨T1,hT1⟩:=mkT fun a:(List Int)=>⟨19,[(0,(fzE false (eI .i64) a))],[]⟩
 refine EvL.jn T1 (fun a=>a=o1) ?_ ?_
 ·refine zaa ?_;simp only[rnA,Nat.reduceEqDiff,reduceIte,Nat.reduceLT,Nat.reduceAdd,Nat.reduceLeDiff,Nat.reduceMul,Nat.reduceSub,Int.reduceLE,Int.reduceLT,Int.reduceBEq,Nat.reduceBEq,reduceCtorEq];obtain⟨T2,hT2⟩:=mkT fun a:((List Int)×(List Int))=>⟨19,[(0,(fzE false (eI .i64) a.1)),(1,(fzE false (eI .i64) a.2))],[]⟩
  refine EvL.rounds (α:=((List Int)×(List Int))) T2 (fun n a=>zf4 N n a.1 a.2=some o1) N (p0,p1) (by rw[hT2]; exact wm0 [] (by exact trivial)) j1 (fun _ h=>nomatch (show(none:Option (List Int))=some o1 from h)) ?_;rintro n ⟨v0,v1⟩ j1;simp only[zf4]at j1;rw[congrFun hT2 (v0,v1)];refine zaa ?_;try simp only[rnA,Nat.reduceEqDiff,reduceIte,Nat.reduceLT,Nat.reduceAdd,Nat.reduceLeDiff,Nat.reduceMul,Nat.reduceSub,Int.reduceLE,Int.reduceLT,Int.reduceBEq,Nat.reduceBEq,reduceCtorEq,zam]
  cases c1:(decide (0<(v1.length:Int)))
  ·rw[c1,cond_false]at j1;try simp only[rnA,Nat.reduceEqDiff,reduceIte,Nat.reduceLT,Nat.reduceAdd,Nat.reduceLeDiff,Nat.reduceMul,Nat.reduceSub,Int.reduceLE,Int.reduceLT,Int.reduceBEq,Nat.reduceBEq,reduceCtorEq,c1]
   replace j1:=qaa j1; subst j1;exact lfj hT1 rfl (wm0 [] (by exact trivial))
  rw[c1,cond_true]at j1;obtain⟨r2,g3,j1⟩:=bind_some j1;try simp only[rnA,Nat.reduceEqDiff,reduceIte,Nat.reduceLT,Nat.reduceAdd,Nat.reduceLeDiff,Nat.reduceMul,Nat.reduceSub,Int.reduceLE,Int.reduceLT,Int.reduceBEq,Nat.reduceBEq,reduceCtorEq,c1]
  refine EvL.fnS (zfn g3) rfl rfl (.cons (zal _ _ (fun h=>by cases h<;>contradiction)) (.cons (zal _ _ (fun h=>by cases h<;>contradiction)) .nil)) ⟨(zae _ _),(zae _ _),qb1⟩ ⟨(zae _ _),(zae _ _),qb1⟩ ?_;try simp only[rnA,Nat.reduceEqDiff,reduceIte,Nat.reduceLT,Nat.reduceAdd,Nat.reduceLeDiff,Nat.reduceMul,Nat.reduceSub,Int.reduceLE,Int.reduceLT,Int.reduceBEq,Nat.reduceBEq,reduceCtorEq,c1]
  exact⟨(v1,r2.2),j1,by rw[hT2]; exact wm0 [] (by exact trivial)⟩
 rintro v0 rfl;rw[congrFun hT1 v0];refine zaa ?_;try simp only[rnA,Nat.reduceEqDiff,reduceIte,Nat.reduceLT,Nat.reduceAdd,Nat.reduceLeDiff,Nat.reduceMul,Nat.reduceSub,Int.reduceLE,Int.reduceLT,Int.reduceBEq,Nat.reduceBEq,reduceCtorEq]
 replace h:=qaa h; subst h;exact zfD.ret rfl (zad _ _ (fun h=>nomatch h))
def zd2:Nat→Int→(List Int)→Option (List Int)
 | 0,_,_=>none
 | n+1,v0,l0=>(
bif (v0 == 0)then(
some l0)
else(
(ze9 8 l0 [(zjc (v0.tmod 10000) (w64 (0 - (v0.tmod 10000))))]).bind fun y2=>
zd2 n (w64 (v0.tdiv 10000)) y2))
def zbu(N:Nat)(p0:Int):Option (List Int):=
((zd2 N p0 []:Option (List Int))).bind fun l0=>
some l0
theorem zbG{N:Nat}{p0:Int}{r:(List Int)}(h:zbu N p0=some r):Lx.Fn mC 148 [(dI p0)] (fzE true (eI .i64) r):=by
 refine fnO (by conv=>lhs; cbv) ?_;unfold zbu at h;refine zaa ?_;try simp only[rnA,Nat.reduceEqDiff,reduceIte,Nat.reduceLT,Nat.reduceAdd,Nat.reduceLeDiff,Nat.reduceMul,Nat.reduceSub,Int.reduceLE,Int.reduceLT,Int.reduceBEq,Nat.reduceBEq,reduceCtorEq]
 obtain⟨o1,j1,h⟩:=bind_some h;obtain⟨T1,hT1⟩:=mkT fun a:(List Int)=>⟨19,[(3,(.sl 0 0 1 a.length none a.length))],[.grow 1 (a.map ((eI .i64).c true))]⟩
 refine EvL.jn T1 (fun a=>a=o1) ?_ ?_
 ·refine zaa ?_;simp only[rnA,Nat.reduceEqDiff,reduceIte,Nat.reduceLT,Nat.reduceAdd,Nat.reduceLeDiff,Nat.reduceMul,Nat.reduceSub,Int.reduceLE,Int.reduceLT,Int.reduceBEq,Nat.reduceBEq,reduceCtorEq];obtain⟨T2,hT2⟩:=mkT fun a:(Int×(List Int))=>⟨19,[(0,(dI a.1)),(3,(.sl 0 0 1 a.2.length none a.2.length))],[.grow 1 (a.2.map ((eI .i64).c true))]⟩
  refine EvL.zeH (zaV.ghost (n:=1) (k:=3) (by decide) rfl) ?_;refine EvL.rounds (α:=(Int×(List Int))) T2 (fun n a=>zd2 n a.1 a.2=some o1) N (p0,[]) (by rw[hT2]; exact wm0 [.k] ⟨MB.gs (eI .i64) true [],qb1⟩) j1 (fun _ h=>nomatch (show(none:Option (List Int))=some o1 from h)) ?_;rintro n ⟨v0,l0⟩ j1;simp only[zd2]at j1;rw[congrFun hT2 (v0,l0)];refine zaa ?_;try simp only[rnA,Nat.reduceEqDiff,reduceIte,Nat.reduceLT,Nat.reduceAdd,Nat.reduceLeDiff,Nat.reduceMul,Nat.reduceSub,Int.reduceLE,Int.reduceLT,Int.reduceBEq,Nat.reduceBEq,reduceCtorEq]
  cases c1:(v0 == 0)
  ·rw[c1,cond_false]at j1;obtain⟨y2,g3,j1⟩:=bind_some j1;try simp only[rnA,Nat.reduceEqDiff,reduceIte,Nat.reduceLT,Nat.reduceAdd,Nat.reduceLeDiff,Nat.reduceMul,Nat.reduceSub,Int.reduceLE,Int.reduceLT,Int.reduceBEq,Nat.reduceBEq,reduceCtorEq,zcE g3,(show l0.length+1=y2.length from zbC g3),(show l0.map ((eI .i64).c true)++ [[(dI (zjc (v0.tmod 10000) (w64 (0 - (v0.tmod 10000)))))]]=y2.map ((eI .i64).c true)from zcm g3 ((eI .i64).c true)),c1]
   exact⟨((w64 (v0.tdiv 10000)),y2),j1,by rw[hT2]; exact wm0 [.k] ⟨MB.gs (eI .i64) true y2,qb1⟩⟩
  rw[c1,cond_true]at j1;try simp only[rnA,Nat.reduceEqDiff,reduceIte,Nat.reduceLT,Nat.reduceAdd,Nat.reduceLeDiff,Nat.reduceMul,Nat.reduceSub,Int.reduceLE,Int.reduceLT,Int.reduceBEq,Nat.reduceBEq,reduceCtorEq,c1]
  replace j1:=qaa j1; subst j1;exact lfj hT1 rfl (wm0 [.k] ⟨MB.gs (eI .i64) true l0,qb1⟩)
 rintro l0 rfl;rw[congrFun hT1 l0];refine zaa ?_;try simp only[rnA,Nat.reduceEqDiff,reduceIte,Nat.reduceLT,Nat.reduceAdd,Nat.reduceLeDiff,Nat.reduceMul,Nat.reduceSub,Int.reduceLE,Int.reduceLT,Int.reduceBEq,Nat.reduceBEq,reduceCtorEq]
 replace h:=qaa h; subst h;exact za0.ret rfl (zaj (e:=(eI .i64)) (t:=true) rfl (.inr rfl) rfl rfl (fun k h=>nomatch h) (fun _=>rfl))
end Go.Dc
