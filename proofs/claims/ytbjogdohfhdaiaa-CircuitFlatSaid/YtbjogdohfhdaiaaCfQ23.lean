/-
 What l15_flat computes. Conditions: none.
-/
import Derived.Test.YtbjogdohfhdaiaaCfJ5
set_option linter.unusedSimpArgs false
set_option linter.unusedVariables false
set_option maxRecDepth 100000
set_option maxHeartbeats 4000000
namespace Go.Dc
open Go Go.Mx Go.Lx Go.Proofs
def zc3(x4:S_api_Node)(v27:Int):Nat->Int->(List S_api_Gate)->Option (List S_api_Gate)
 | 0,_,_=>none
 | n+1,v47,l5'=>(
bif (decide (v47<x4.card))then(
(zgZ v27 v47).bind λr13=>
(zc2 56 l5' [r13]).bind λy15=>
zc3 x4 v27 n (w64 (v47+1)) y15)
else(
some l5'))
def zdc(p0:S_api_Net):Nat->Int->(List Int)->(List Int)->(List S_api_Gate)->Option ((List Int)×(List Int)×(List S_api_Gate))
 | 0,_,_,_,_=>none
 | n+1,v27,l3,l4,l5=>(
bif (decide (v27<(p0.nodes.length:Int)))then(
(zaC p0.nodes v27).bind λx4=>
(zc2 8 l4 [x4.card]).bind λy6=>
(zaC l3 v27).bind λx8=>
(zd2 l3 v27 ((l5.length:Nat):Int)).bind λy10=>
((zc3 x4 v27 (x4.card - 0+2:Int).toNat 0 l5:Option (List S_api_Gate))).bind λl5'=>
zdc p0 n (w64 (v27+1)) y10 y6 l5')
else(
some (l3,l4,l5)))
def zc9(r23:((List Int)×Int))(l3:(List Int)):Nat->Int->(List Int)->Option (List Int)
 | 0,_,_=>none
 | n+1,v101,l7_=>(
bif (decide (v101<(r23.1.length:Int)))then(
(zaC r23.1 v101).bind λx29=>
(zaC l3 v101).bind λx31=>
(zc2 8 l7_ [(w64 (x31+x29))]).bind λy33=>
zc9 r23 l3 n (w64 (v101+1)) y33)
else(
some l7_))
def zc1(r17:(Int×Int))(p0:S_api_Net)(l4:(List Int))(l3:(List Int)):Nat->Int->(List Int)->(List S_api_Gate)->Option (Out ((List Int)×(List S_api_Gate)) (S_api_Circuit×Bool))
 | 0,_,_,_=>none
 | n+1,v69,l6,l5'=>(
bif (decide (v69<r17.1))then(
(zbQ p0 v69).bind λr21=>
(zbO p0 v69).bind λr23=>
((bif (r21.2 == 0)then(
bif (r23.2 == 0)then(
some (!((r23.1.length:Int)==(p0.nodes.length:Int))))
else(
some true))
else(
some true):Option Bool)).bind λv97=>
bif v97 then(
some (.ret ((S_api_Circuit.mk l4 l5'),false)))
else(
((zc9 r23 l3 ((r23.1.length:Int) - 0+2:Int).toNat 0 []:Option (List Int))).bind λl7_=>
(zec r21.1).bind λr35=>
(zc2 56 l5' [r35]).bind λy37=>
(zc2 8 l7_ [(w64 (((y37.length:Nat):Int) - 1))]).bind λy39=>
(zdA y39).bind λr41=>
(zc2 56 y37 [r41]).bind λy43=>
(zc2 8 l6 [(w64 (((y43.length:Nat):Int) - 1))]).bind λy45=>
zc1 r17 p0 l4 l3 n (w64 (v69+1)) y45 y43))
else(
some (.go (l6,l5'))))
def zej(p0:S_api_Net):Option (S_api_Circuit×Bool):=
(zd5 8 (p0.nodes.length:Int) 0).bind λy1=>
((zdc p0 ((p0.nodes.length:Int) - 0+2:Int).toNat 0 y1 [] []:Option (((List Int)×(List Int)×(List S_api_Gate))))).bind λo=>match o with
|(l3,l4,l5)=>(
(zdp p0).bind λr17=>
bif (r17.2 == 0)then(
((zc1 r17 p0 l4 l3 (r17.1 - 0+2:Int).toNat 0 [] l5:Option (Out ((List Int)×(List S_api_Gate)) (S_api_Circuit×Bool)))).bind λo=>match o with
| .go (l6,l5')=>(
(zgv l6).bind λr47=>
(zc2 56 l5' [r47]).bind λy49=>
some ((S_api_Circuit.mk l4 y49),true))
| .ret r=>some r)
else(
some ((S_api_Circuit.mk l4 l5),false)))
theorem zoy{p0:S_api_Net}{r:(S_api_Circuit×Bool)}(h:zej p0=some r):Lx.FnA mC 23 [(.agg [(dI p0.grain),(fzE false zad p0.nodes)])] (.tup [(.agg [(fzE false (eI .i64) r.1.cards),(fzE false zaa r.1.gates)]),(dB r.2)]):=by
 refine zzC ?_;unfold zej at h;refine zab ?_;obtain⟨y1,g2,h⟩:=bsM h;refine zwN ((zaK g2).1.1) ((zaK g2).1.2) @qbC (miM g2) ?_;obtain⟨o9,j9,h⟩:=bsM h;obtain⟨T9,hT9⟩:=mkT λa:((List Int)×(List Int)×(List S_api_Gate))=>⟨152,[(1,(.ptr 0 0)),(2,(.ptr 1 0)),(4,(.ptr 2 0)),(5,(.sl 3 0 1 (Int.toNat (p0.nodes.length:Int)) (some (Int.toNat (p0.nodes.length:Int))) (Int.toNat (p0.nodes.length:Int))))],[.cells [(dI p0.grain),(fzE false zad p0.nodes)],.cells [zfy,zfy],.cells [(.sl 4 0 1 a.2.1.length none a.2.1.length),(.sl 5 0 5 a.2.2.length none a.2.2.length)],.els 1 (a.1.map ((eI .i64).c true)),.grow 1 (a.2.1.map ((eI .i64).c true)),.grow 5 (a.2.2.map (zaa.c false))]⟩
 refine EvL.jn T9 (λa=>a=o9/\a.1.length=(Int.toNat (p0.nodes.length:Int))) ?_ ?_
 .refine wSM ?_;obtain⟨T16,hT16⟩:=mkT λa:(Int×(List Int)×(List Int)×(List S_api_Gate))=>⟨152,[(1,(.ptr 0 0)),(2,(.ptr 1 0)),(4,(.ptr 2 0)),(5,(.sl 3 0 1 (Int.toNat (p0.nodes.length:Int)) (some (Int.toNat (p0.nodes.length:Int))) (Int.toNat (p0.nodes.length:Int)))),(25,(fzE false zad p0.nodes)),(26,(dI (p0.nodes.length:Int))),(27,(dI a.1))],[.cells [(dI p0.grain),(fzE false zad p0.nodes)],.cells [zfy,zfy],.cells [(.sl 4 0 1 a.2.2.1.length none a.2.2.1.length),(.sl 5 0 5 a.2.2.2.length none a.2.2.2.length)],.els 1 (a.2.1.map ((eI .i64).c true)),.grow 1 (a.2.2.1.map ((eI .i64).c true)),.grow 5 (a.2.2.2.map (zaa.c false))]⟩
  refine EvL.zjG (zaT.zxG (n:=1) (β:=2) (o:=0) (by decide) rfl rfl) ?_;refine EvL.zjG (zaT.zxG (n:=5) (β:=2) (o:=1) (by decide) rfl rfl) ?_;refine EvL.rounds (α:=(Int×(List Int)×(List Int)×(List S_api_Gate))) T16 (λn a=>zdc p0 n a.1 a.2.1 a.2.2.1 a.2.2.2=some o9/\a.2.1.length=(Int.toNat (p0.nodes.length:Int))) ((p0.nodes.length:Int) - 0+2:Int).toNat (0,y1,[],[]) (by rw[hT16]; exact wm0 [.k,.k,.k,.k,.k,.k] ⟨MB.cs ⟨qdk,qdk,qdk⟩,⟨MB.cs ⟨qdk,qdk,qdk⟩,⟨MB.cs ⟨rfl,rfl,qdk⟩,⟨MB.es (eI .i64) true y1,⟨MB.gs (eI .i64) true [],⟨MB.gs zaa false [],qdk⟩⟩⟩⟩⟩⟩) ⟨j9,zbB g2⟩ (λ_ h=>nomatch (show(none:Option ((List Int)×(List Int)×(List S_api_Gate)))=some o9 from h.1)) ?_;rintro n ⟨v27,l3,l4,l5⟩ ⟨j9,el3⟩;simp only[zdc]at j9;refine wTM hT16 ?_;refine cBM j9 (λ_ j9=>?_) λ_ j9=>?_
  .obtain rfl:=qal j9;exact zdk hT9 _ ⟨rfl,el3⟩
  obtain⟨x4,g5,j9⟩:=bsM j9;obtain⟨y6,g7,j9⟩:=bsM j9;obtain⟨x8,g9,j9⟩:=bsM j9;obtain⟨y10,g11,j9⟩:=bsM j9;refine ziz @zal (zao (n:=3) (e:=zad) rfl g5) (zby g7) (plM g7) (piM g7) (anM el3 (anM (zaL g9) (anM (ltM el3 g9) (anM (giM g9) (siM g11))))) ?_;obtain⟨o17,j17,j9⟩:=bsM j9;obtain⟨T17,hT17⟩:=zdD hT16 λa:(List S_api_Gate)=>uDM (T16 (v27,l3,l4,l5)) [] [] [(2,.cells [(.sl 4 0 1 y6.length none y6.length),(.sl 5 0 5 a.length none a.length)]),(3,.els 1 (y10.map ((eI .i64).c true))),(4,.grow 1 (y6.map ((eI .i64).c true))),(5,.grow 5 (a.map (zaa.c false)))] []
  refine EvL.jn T17 (λa=>a=o17) ?_ ?_
  .refine wSM ?_;obtain⟨T18,hT18⟩:=zdD hT16 λa:(Int×(List S_api_Gate))=>uDM (T16 (v27,l3,l4,l5)) [] [(6,(dI v27)),(46,(dI x4.card)),(47,(dI a.1))] [(2,.cells [(.sl 4 0 1 y6.length none y6.length),(.sl 5 0 5 a.2.length none a.2.length)]),(3,.els 1 (y10.map ((eI .i64).c true))),(4,.grow 1 (y6.map ((eI .i64).c true))),(5,.grow 5 (a.2.map (zaa.c false)))] []
   refine EvL.rounds (α:=(Int×(List S_api_Gate))) T18 (λn a=>zc3 x4 v27 n a.1 a.2=some o17) (x4.card - 0+2:Int).toNat (0,l5) (by rw[hT18]; exact wAM) j17 (λ_ h=>nomatch (show(none:Option (List S_api_Gate))=some o17 from h)) ?_;rintro n ⟨v47,l5'⟩ j17;simp only[zc3]at j17;refine wTM hT18 ?_;refine cBM j17 (λ_ j17=>?_) λ_ j17=>?_
   .exact zeV j17 hT17
   obtain⟨r13,g14,j17⟩:=bsM j17;refine sSM ?_;refine fDM (zr4 g14) ?_;obtain⟨y15,g16,j17⟩:=bsM j17;refine zu2 (zby g16) (plM g16) (show l5'.map (zaa.c false)++ [[(dI r13.kind),(dI r13.var),(dI r13.val),(dI r13.n),(fzE false (eI .i64) r13.args)]]=y15.map (zaa.c false)from zdo g16 (zaa.c false)) ?_;exact zdk hT18 ((w64 (v47+1)),y15) j17
  rintro l5' rfl;refine wTM hT17 ?_;exact zdk hT16 ((w64 (v27+1)),y10,y6,l5') ⟨j9,(za4 g11).trans el3⟩
 rintro⟨l3,l4,l5⟩ ⟨rfl,el3⟩;dsimp only at h;refine wTM hT9 ?_;obtain⟨r17,g18,h⟩:=bsM h;refine sSM ?_;refine fCM (zlb g18) ?_;refine cBM h (λ_ h=>?_) λ_ h=>?_
 .exact rHM h
 obtain⟨o31,j31,h⟩:=bsM h;obtain⟨T31,hT31⟩:=zdD hT9 λa:((List Int)×(List S_api_Gate))=>uKM (T9 (l3,l4,l5)) [2,4] [(11,(.sl 6 0 1 a.1.length none a.1.length))] [(0,.gone),(2,.cells [(.sl 4 0 1 l4.length none l4.length),(.sl 5 0 5 a.2.length none a.2.length)]),(3,.gone),(5,.grow 5 (a.2.map (zaa.c false)))] [.grow 1 (a.1.map ((eI .i64).c true))]
 refine EvL.jn T31 (λa=>o31=.go a) ?_ ?_
 .refine wSM ?_;obtain⟨T41,hT41⟩:=zdD hT9 λa:(Int×(List Int)×(List S_api_Gate))=>uDM (T9 (l3,l4,l5)) [] [(11,(.sl 6 0 1 a.2.1.length none a.2.1.length)),(68,(dI r17.1)),(69,(dI a.1))] [(2,.cells [(.sl 4 0 1 l4.length none l4.length),(.sl 5 0 5 a.2.2.length none a.2.2.length)]),(5,.grow 5 (a.2.2.map (zaa.c false)))] [.grow 1 (a.2.1.map ((eI .i64).c true))]
  refine EvL.zjG (zaT.ghost (n:=1) (k:=11) (by decide) rfl) ?_;refine EvL.rounds (α:=(Int×(List Int)×(List S_api_Gate))) T41 (λn a=>zc1 r17 p0 l4 l3 n a.1 a.2.1 a.2.2=some o31) (r17.1 - 0+2:Int).toNat (0,[],l5) (by rw[hT41]; exact wm0 [.k,.k,.k,.k,.k,.k,.k] ⟨MB.cs ⟨qdk,qdk,qdk⟩,⟨MB.cs ⟨qdk,qdk,qdk⟩,⟨MB.cs ⟨rfl,rfl,qdk⟩,⟨MB.es (eI .i64) true l3,⟨MB.gs (eI .i64) true l4,⟨MB.gs zaa false l5,⟨MB.gs (eI .i64) true [],qdk⟩⟩⟩⟩⟩⟩⟩) j31 (λ_ h=>nomatch (show(none:Option (Out ((List Int)×(List S_api_Gate)) (S_api_Circuit×Bool)))=some o31 from h)) ?_;rintro n ⟨v69,l6,l5'⟩ j31;simp only[zc1]at j31;refine wTM hT41 ?_;refine cBM j31 (λ_ j31=>?_) λ_ j31=>?_
  .exact zzG j31 hT31
  obtain⟨r21,g22,j31⟩:=bsM j31;refine sSM ?_;refine fCM (zkp g22) ?_;obtain⟨r23,g24,j31⟩:=bsM j31;refine sSM ?_;refine fCM (zkS g24) ?_;obtain⟨o42,j42,j31⟩:=bsM j31;obtain⟨T42,hT42⟩:=zdD hT41 λa:Bool=>uDM (T41 (v69,l6,l5')) [] [(13,(dI r21.1)),(15,(fzE true (eI .i64) r23.1)),(97,(dB a))] [] []
  refine EvL.jn T42 _ (bJM j42 hT42) ?_;rintro v97 rfl;refine wTM hT42 ?_;refine cBM j31 (λ_ j31=>?_) λ_ j31=>?_
  .obtain⟨o43,j43,j31⟩:=bsM j31;obtain⟨T43,hT43⟩:=zdD hT42 λa:(List Int)=>uDM (T42 v97) [15,97] [(17,(.sl 7 0 1 a.length none a.length))] [] [.grow 1 (a.map ((eI .i64).c true))]
   refine EvL.jn T43 (λa=>a=o43) ?_ ?_
   .refine wSM ?_;obtain⟨T44,hT44⟩:=mkT λa:(Int×(List Int))=>⟨152,[(1,(.ptr 0 0)),(2,(.ptr 1 0)),(4,(.ptr 2 0)),(5,(.sl 3 0 1 (Int.toNat (p0.nodes.length:Int)) (some (Int.toNat (p0.nodes.length:Int))) (Int.toNat (p0.nodes.length:Int)))),(11,(.sl 6 0 1 l6.length none l6.length)),(13,(dI r21.1)),(17,(.sl 7 0 1 a.2.length none a.2.length)),(68,(dI r17.1)),(69,(dI v69)),(99,(fzE true (eI .i64) r23.1)),(100,(dI (r23.1.length:Int))),(101,(dI a.1))],[.cells [(dI p0.grain),(fzE false zad p0.nodes)],.cells [zfy,zfy],.cells [(.sl 4 0 1 l4.length none l4.length),(.sl 5 0 5 l5'.length none l5'.length)],.els 1 (l3.map ((eI .i64).c true)),.grow 1 (l4.map ((eI .i64).c true)),.grow 5 (l5'.map (zaa.c false)),.grow 1 (l6.map ((eI .i64).c true)),.grow 1 (a.2.map ((eI .i64).c true))]⟩
    refine EvL.zjG (zaT.ghost (n:=1) (k:=17) (by decide) rfl) ?_;refine EvL.rounds (α:=(Int×(List Int))) T44 (λn a=>zc9 r23 l3 n a.1 a.2=some o43) ((r23.1.length:Int) - 0+2:Int).toNat (0,[]) (by rw[hT44]; exact wm0 [.k,.k,.k,.k,.k,.k,.k,.k] ⟨MB.cs ⟨qdk,qdk,qdk⟩,⟨MB.cs ⟨qdk,qdk,qdk⟩,⟨MB.cs ⟨rfl,rfl,qdk⟩,⟨MB.es (eI .i64) true l3,⟨MB.gs (eI .i64) true l4,⟨MB.gs zaa false l5',⟨MB.gs (eI .i64) true l6,⟨MB.gs (eI .i64) true [],qdk⟩⟩⟩⟩⟩⟩⟩⟩) j43 (λ_ h=>nomatch (show(none:Option (List Int))=some o43 from h)) ?_;rintro n ⟨v101,l7_⟩ j43;simp only[zc9]at j43;refine wTM hT44 ?_;refine cBM j43 (λ_ j43=>?_) λ_ j43=>?_
    .exact zeV j43 hT43
    obtain⟨x29,g30,j43⟩:=bsM j43;obtain⟨x31,g32,j43⟩:=bsM j43;obtain⟨y33,g34,j43⟩:=bsM j43;refine ziz (ixM g30) el3 (zaL g32) (ltM el3 g32) (giM g32) (anM (zby g34) (anM (plM g34) (piM g34))) ?_;exact zdk hT44 ((w64 (v101+1)),y33) j43
   rintro l7_ rfl;refine wTM hT43 ?_;obtain⟨r35,g36,j31⟩:=bsM j31;refine sSM ?_;refine fDM (zkZ g36) ?_;obtain⟨y37,g38,j31⟩:=bsM j31;obtain⟨y39,g40,j31⟩:=bsM j31;refine ziz (zby g38) (plM g38) (show l5'.map (zaa.c false)++ [[(dI r35.kind),(dI r35.var),(dI r35.val),(dI r35.n),(fzE false (eI .i64) r35.args)]]=y37.map (zaa.c false)from zdo g38 (zaa.c false)) (zby g40) (plM g40) (piM g40) ?_;refine EvL.zjG (S':=⟨152,[(1,(.ptr 0 0)),(2,(.ptr 1 0)),(4,(.ptr 2 0)),(5,(.sl 3 0 1 (Int.toNat (p0.nodes.length:Int)) (some (Int.toNat (p0.nodes.length:Int))) (Int.toNat (p0.nodes.length:Int)))),(11,(.sl 6 0 1 l6.length none l6.length)),(68,(dI r17.1)),(69,(dI v69)),(124,(.sl 5 0 5 y37.length none y37.length)),(131,(fzE true (eI .i64) y39))],[.cells [(dI p0.grain),(fzE false zad p0.nodes)],.cells [zfy,zfy],.cells [(.sl 4 0 1 l4.length none l4.length),(.sl 5 0 5 y37.length none y37.length)],.els 1 (l3.map ((eI .i64).c true)),.grow 1 (l4.map ((eI .i64).c true)),.grow 5 (y37.map (zaa.c false)),.grow 1 (l6.map ((eI .i64).c true))]⟩) (zaT.m0 [.k,.k,.k,.k,.k,.k,.k,.f] rfl (msq (msq (msq (msq (msq (msq (msq (msq (mf rfl (zo5 (e:=(eI .i64)) (t:=true) rfl rfl (.inr rfl) rfl rfl (λk h=>nomatch h) (λh=>by cases h<;>rfl)) trivial))))))))) ⟨MB.cs ⟨qdk,qdk,qdk⟩,⟨MB.cs ⟨qdk,qdk,qdk⟩,⟨MB.cs ⟨rfl,rfl,qdk⟩,⟨MB.es (eI .i64) true l3,⟨MB.gs (eI .i64) true l4,⟨MB.gs zaa false y37,⟨MB.gs (eI .i64) true l6,qdk⟩⟩⟩⟩⟩⟩⟩) (zab ?_);obtain⟨r41,g42,j31⟩:=bsM j31;refine sSM ?_;refine fDM (zji g42) ?_;obtain⟨y43,g44,j31⟩:=bsM j31;obtain⟨y45,g46,j31⟩:=bsM j31;refine ziz (zby g44) (plM g44) (show y37.map (zaa.c false)++ [[(dI r41.kind),(dI r41.var),(dI r41.val),(dI r41.n),(fzE false (eI .i64) r41.args)]]=y43.map (zaa.c false)from zdo g44 (zaa.c false)) (zby g46) (plM g46) (piM g46) ?_;exact zdk hT41 ((w64 (v69+1)),y45,y43) j31
  obtain rfl:=qal j31;exact rHM h
 rintro⟨l6,l5'⟩ rfl;dsimp only at h;refine wTM hT31 ?_;refine EvL.zjG (S':=⟨152,[(2,(.ptr 1 0)),(4,(.ptr 2 0)),(145,(.sl 5 0 5 l5'.length none l5'.length)),(146,(fzE true (eI .i64) l6))],[.gone,.cells [zfy,zfy],.cells [(.sl 4 0 1 l4.length none l4.length),(.sl 5 0 5 l5'.length none l5'.length)],.gone,.grow 1 (l4.map ((eI .i64).c true)),.grow 5 (l5'.map (zaa.c false))]⟩) (zaT.m0 [.d,.k,.k,.d,.k,.k,.f] rfl (msq (msq (msq (mf rfl (zo5 (e:=(eI .i64)) (t:=true) rfl rfl (.inr rfl) rfl rfl (λk h=>nomatch h) (λh=>by cases h<;>rfl)) trivial)))) ⟨rfl,⟨MB.cs ⟨qdk,qdk,qdk⟩,⟨MB.cs ⟨rfl,rfl,qdk⟩,⟨rfl,⟨MB.gs (eI .i64) true l4,⟨MB.gs zaa false l5',qdk⟩⟩⟩⟩⟩⟩) (zab ?_);obtain⟨r47,g48,h⟩:=bsM h;refine sSM ?_;refine fDM (zqY g48) ?_;obtain⟨y49,g50,h⟩:=bsM h;refine zu2 (zby g50) (plM g50) (show l5'.map (zaa.c false)++ [[(dI r47.kind),(dI r47.var),(dI r47.val),(dI r47.n),(fzE false (eI .i64) r47.args)]]=y49.map (zaa.c false)from zdo g50 (zaa.c false)) ?_;exact rHM h
end Go.Dc
