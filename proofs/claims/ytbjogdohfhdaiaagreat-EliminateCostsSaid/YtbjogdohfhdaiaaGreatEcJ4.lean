/-
 What r05_Draft_Net computes. Conditions: none.
-/
import Derived.Test.YtbjogdohfhdaiaaGreatEcJ1
import Derived.Test.YtbjogdohfhdaiaaGreatEcJ2
import Derived.Test.YtbjogdohfhdaiaaGreatEcJ3
set_option linter.unusedSimpArgs false
set_option linter.unusedVariables false
set_option maxRecDepth 100000
set_option maxHeartbeats 4000000
namespace Go.Dc
open Go Go.Mx Go.Lx Go.Proofs
def zbN(p0:S_haruspexref05_Draft)(r5:(List Int)):Nat->Int->Int->(List S_api_Node)->Option (List S_api_Node)
 | 0,_,_,_=>none
 | n+1,v6,v7,l2=>(
bif (decide (v7<(zmj (zhs (p0.nodes.length:Int) 1) 5)))then(
((bif (decide (v7<(p0.nodes.length:Int)))then(
(zaE p0.nodes v7).bind λx9=>
some (x9.zaF,x9.parents,x9.w))
else(
some (0,0,[])):Option ((Int×Int×(List Int))))).bind λo=>match o with
|(b4_0,b4_1,b4_2)=>(
(zpr .i64 (w64 (v6 * (w64 (2+(w64 (b4_0.tmod 2)))))) (IntKind.u64.wrap (w64 ((w64 ((zmj (zhs (p0.nodes.length:Int) 1) 5) - 1)) - v7)))).bind λq11=>
((bif (decide (100<q11))then(
some 2)
else(
some (w64 (2+(w64 (b4_0.tmod 2))))):Option Int)).bind λv9=>
(zaE r5 v7).bind λx14=>
(zaE l2 x14).bind λx16=>
(zfl l2 x14 (S_api_Node.mk v9 x16.parents x16.rows)).bind λy18=>
zbN p0 r5 n (w64 (v6 * v9)) (w64 (v7+1)) y18))
else(
some l2))
def zb9(N:Nat)(p0:S_haruspexref05_Draft)(r5:(List Int)):Nat->Int->(List S_api_Node)->Option (List S_api_Node)
 | 0,_,_=>none
 | n+1,v10,l2'=>(
bif (decide (v10<(zmj (zhs (p0.nodes.length:Int) 1) 5)))then(
((bif (decide (v10<(p0.nodes.length:Int)))then(
(zaE p0.nodes v10).bind λx22=>
some (x22.zaF,x22.parents,x22.w))
else(
some (0,0,[])):Option ((Int×Int×(List Int))))).bind λo=>match o with
|(b4_0,b4_1,b4_2)=>(
(zaE r5 v10).bind λx24=>
(zqJ r5 v10 x24 (zmj (zhs (p0.nodes.length:Int) 1) 5) b4_1 l2').bind λy26=>
(zqu N (w64 (1+(w64 (p0.grain.tmod 60)))) x24 b4_2 y26).bind λy28=>
zb9 N p0 r5 n (w64 (v10+1)) y28))
else(
some l2'))
def zb2(N:Nat)(p0:S_haruspexref05_Draft):Option S_api_Net:=
(zeR 56 (zmj (zhs (p0.nodes.length:Int) 1) 5) (S_api_Node.mk 0 [] [])).bind λy1=>
(zeR 1 (zmj (zhs (p0.nodes.length:Int) 1) 5) 0).bind λy3=>
(zbv N (S_haruspexref02_Draft.mk y3 0 p0.order)).bind λr5=>
((zbN p0 r5 ((zmj (zhs (p0.nodes.length:Int) 1) 5) - 0+2:Int).toNat 1 0 y1:Option (List S_api_Node))).bind λl2=>
((zb9 N p0 r5 ((zmj (zhs (p0.nodes.length:Int) 1) 5) - 0+2:Int).toNat 0 l2:Option (List S_api_Node))).bind λl2'=>
some (S_api_Net.mk (w64 (1+(w64 (p0.grain.tmod 60)))) l2')
theorem zgh{N:Nat}{p0:S_haruspexref05_Draft}{r:S_api_Net}(h:zb2 N p0=some r):Lx.Fn mC 13 [(.agg [(dU8 p0.grain),(fzE false zaN p0.nodes),(fzE false (eI .u8) p0.order)])] (.agg [(dI r.grain),(fzE true zaa r.nodes)]):=by
 refine gnP (List.range 30) [30,31,32,33] ?_;unfold zb2 at h;refine zad ?_;obtain⟨y1,g2,y3,g4,r5,g6,h⟩:=zhx h;refine sXM (anM ((zaD g2).1.1) (anM ((zaD g2).1.2) (anM @qbS (anM (show List.replicate (Int.toNat (zmj (zhs (p0.nodes.length:Int) 1) 5)) [(dI 0),zez,zez]=y1.map (zan.c true)from zgJ g2 (zan.c true)) (anM ((zaD g4).1.2) (mbM g4)))))) ?_;refine fCM (zfM g6) ?_;obtain⟨o7,j7,h⟩:=bsM h;refine usM [1,2,3,4,5] 4 (λa:(List S_api_Node)=>([],[(2,.els 3 (a.map (zan.c true)))],[])) λT7 hT7=>?_
 refine EvL.jn T7 (λa=>a=o7/\a.length=(Int.toNat (zmj (zhs (p0.nodes.length:Int) 1) 5))) ?_ ?_
 .refine wSM ?_;refine usM [1,2,3,4,5] 4 (λa:(Int×Int×(List S_api_Node))=>([(6,(dI a.1)),(7,(dI a.2.1))],[(2,.els 3 (a.2.2.map (zan.c true)))],[])) λT12 hT12=>?_
  refine rdM hT12 (λn a=>zbN p0 r5 n a.1 a.2.1 a.2.2=some o7/\a.2.2.length=(Int.toNat (zmj (zhs (p0.nodes.length:Int) 1) 5))) (1,0,y1) ⟨j7,zbC g2⟩ ?_;rintro n ⟨v6,v7,l2⟩ ⟨j7,el2⟩;simp only[zbN]at j7;refine wTM hT12 ?_;refine cBM j7 (λ_ j7=>?_) λ_ j7=>?_
  .obtain rfl:=qae j7;exact zcr hT7 _ ⟨rfl,el2⟩
  obtain⟨o13,j13,j7⟩:=bsM j7;obtain⟨T13,hT13⟩:=zcC hT12 λa:(Int×Int×(List Int))=>uDM (T12 (v6,v7,l2)) [] [(8,(.ptr 4 0))] [] [.cells [(dU8 a.1),(dU8 a.2.1),(fzE false (eI .u8) a.2.2)]]
  refine EvL.jn T13 (λa=>a=o13) ?_ ?_
  .refine wSM ?_;refine cBM j13 (λ_ j13=>?_) λ_ j13=>?_
   .obtain rfl:=qae j13;exact lfj hT13 rfl (wm0 [.k,.k,.k,.k,.k] ⟨MB.cs ⟨qds,qds,qds,qds⟩,⟨MB.cs ⟨qds,qds,qds⟩,⟨MB.es zan true l2,⟨MB.cs ⟨qds,rfl,qds⟩,⟨MB.zEG (.cons (.same trivial) (.cons (.same trivial) (.cons (.fr (zkL (eI .u8))) .nil))),qds⟩⟩⟩⟩⟩)
   obtain⟨x9,g10,j13⟩:=bsM j13;refine sXM (anM @zdV (zaq (n:=3) (e:=zaN) rfl g10)) ?_;exact zch j13 hT13
  rintro⟨b4_0,b4_1,b4_2⟩ rfl;dsimp only at j7;refine wTM hT13 ?_;obtain⟨q11,g12,j7⟩:=bsM j7;refine sXM (anM ((zby g12).1) ((zby g12).2)) ?_;obtain⟨o14,j14,j7⟩:=bsM j7;obtain⟨T14,hT14⟩:=zcC hT12 λa:Int=>uDM (T12 (v6,v7,l2)) [] [(9,(dI a))] [] []
  refine EvL.jn T14 _ (bJM j14 hT14) ?_;rintro v9 rfl;refine wTM hT14 ?_;obtain⟨x14,g15,x16,g17,y18,g19,j7⟩:=zhx j7;refine sXM (anM @zfB (anM (ixM g15) (anM el2 (anM (zaZ g17) (anM (ltM el2 g17) (anM (zcD g17 (zan.c true)) (show(l2.map (zan.c true)).set x14.toNat [(dI v9),(nE true (eI .i64) x16.parents),(nE true (eL (eI .i64)) x16.rows)]=y18.map (zan.c true)from zeq g19 (zan.c true)))))))) ?_;exact zcr hT12 ((w64 (v6 * v9)),(w64 (v7+1)),y18) ⟨j7,(zaX g19).trans el2⟩
 rintro l2 ⟨rfl,el2⟩;refine wTM hT7 ?_;obtain⟨o18,j18,h⟩:=bsM h;obtain⟨T18,hT18⟩:=zcC hT7 λa:(List S_api_Node)=>uKM (T7 l2) [2,4] [] [(0,.gone),(2,.els 3 (a.map (zan.c true)))] []
 refine EvL.jn T18 (λa=>a=o18/\a.length=(Int.toNat (zmj (zhs (p0.nodes.length:Int) 1) 5))) ?_ ?_
 .refine wSM ?_;obtain⟨T21,hT21⟩:=zcC hT7 λa:(Int×(List S_api_Node))=>uDM (T7 l2) [] [(10,(dI a.1))] [(2,.els 3 (a.2.map (zan.c true)))] []
  refine rdM hT21 (λn a=>zb9 N p0 r5 n a.1 a.2=some o18/\a.2.length=(Int.toNat (zmj (zhs (p0.nodes.length:Int) 1) 5))) (0,l2) ⟨j18,el2⟩ ?_;rintro n ⟨v10,l2'⟩ ⟨j18,el2'⟩;simp only[zb9]at j18;refine wTM hT21 ?_;refine cBM j18 (λ_ j18=>?_) λ_ j18=>?_
  .obtain rfl:=qae j18;exact zcr hT18 _ ⟨rfl,el2'⟩
  obtain⟨o22,j22,j18⟩:=bsM j18;obtain⟨T22,hT22⟩:=zcC hT21 λa:(Int×Int×(List Int))=>uDM (T21 (v10,l2')) [] [(11,(.ptr 4 0))] [] [.cells [(dU8 a.1),(dU8 a.2.1),(fzE false (eI .u8) a.2.2)]]
  refine EvL.jn T22 (λa=>a=o22) ?_ ?_
  .refine wSM ?_;refine cBM j22 (λ_ j22=>?_) λ_ j22=>?_
   .obtain rfl:=qae j22;exact lfj hT22 rfl (wm0 [.k,.k,.k,.k,.k] ⟨MB.cs ⟨qds,qds,qds,qds⟩,⟨MB.cs ⟨qds,qds,qds⟩,⟨MB.es zan true l2',⟨MB.cs ⟨qds,rfl,qds⟩,⟨MB.zEG (.cons (.same trivial) (.cons (.same trivial) (.cons (.fr (zkL (eI .u8))) .nil))),qds⟩⟩⟩⟩⟩)
   obtain⟨x22,g23,j22⟩:=bsM j22;refine sXM (anM @zdV (zaq (n:=3) (e:=zaN) rfl g23)) ?_;exact zch j22 hT22
  rintro⟨b4_0,b4_1,b4_2⟩ rfl;dsimp only at j18;refine wTM hT22 ?_;obtain⟨x24,g25,j18⟩:=bsM j18;refine sXM (ixM g25) ?_;obtain⟨y26,g27,j18⟩:=bsM j18;refine wuM [1,2,3,4,5,10,11,12,13] 5 [] [] [] ?_;refine zEi g27 (λkp=>⟨qds,qds,qds,qds⟩) (λkp=>⟨qds,qds,qds⟩) (λkp=>trivial) (λkp=>trivial) el2' (zad ?_);refine sSM ?_;obtain⟨y28,g29,j18⟩:=bsM j18;refine wuM [1,2,3,4,5,10,11,12,15] 5 [] [] [] ?_;refine zDg g29 (λkp=>⟨qds,qds,qds,qds⟩) (λkp=>⟨qds,qds,qds⟩) (λkp=>trivial) (λkp=>trivial) ((zly g27).trans el2') (zad ?_);refine sSM ?_;exact zcr hT21 ((w64 (v10+1)),y28) ⟨j18,((ztF g29).trans ((zly g27).trans el2'))⟩
 rintro l2' ⟨rfl,el2'⟩;refine wTM hT18 ?_;obtain rfl:=qae h;exact zje.ret rfl (.zup (.cons (.lit _) (.cons (znd (e:=zaa) rfl (.inl rfl) (by rw[qak]; exact(el2').symm) (by rw[qak]; exact(el2').symm) (λk h=>by cases h; exact qap _) (zjX (λ_=>rfl) l2')) .nil)))
end Go.Dc
namespace Go.Dc
open Go Go.Mx Go.Lx
structure NodeOk (num:List Nat) (g:Nat) (cs:List Nat) (j:Nat) (x:NN):Prop where
 par:ParOk num j cs.length x.ps
 rows:RowsOk g x.c (zac (x.ps.map λp=>cs.getD p 0)) x.rows
structure NetOk (num:List Nat) (g:Nat) (ns:List NN):Prop where
 g1:1<=g
 g2:g<=60
 n1:1<=ns.length
 n2:ns.length<=8
 zaF:∀ x∈ns,1<=x.c/\x.c<=4
 prod:zac (ns.map (·.c))<=1024
 perm:PermOk ns.length num
 node:∀(j v:Nat) (x:NN),num[j]? = some v->ns[v]? = some x->NodeOk num g (ns.map (·.c)) j x
structure PieceN where
 zaF:Nat
 parents:Nat
 w:List Nat
structure DraftN where
 grain:Nat
 nodes:List PieceN
 order:List Nat
def zr0(x:PieceN):S_haruspexref05_Piece:=⟨x.zaF,x.parents,iL x.w⟩
def zc0(d:DraftN):S_haruspexref05_Draft:=⟨d.grain,d.nodes.map zr0,iL d.order⟩
structure DraftOk (d:DraftN):Prop where
 grain:d.grain<=255
 zaF:∀ x∈d.nodes,x.zaF<=255
 order:∀ x∈d.order,x<=255
def znL(d:DraftN):Nat:=min (max d.nodes.length 1) 5
theorem zqN(d:DraftN):zmj (zhs ((zc0 d).nodes.length:Int) 1) 5=((znL d:Nat):Int):=by
 grind [znL,zc0]
def zoR(xs:List Nat):Nat:=xs.foldr (λx a=>max 1 x * a) 1
theorem zn3:∀ {xs:List Nat} {i c:Nat},xs[i]? = some 0->1<=c->zoR (xs.set i c)=zoR xs * c
 | [],i,c,h,hc=>by simp at h
 | x :: xs,0,c,h,hc=>by
  grind [zoR]
 | x :: xs,i+1,c,h,hc=>by
  have ih:=zn3 (xs:=xs) (i:=i) (c:=c) (by simpa using h) hc
  grind [zoR]
theorem zrb:∀ {xs:List Nat},(∀ x∈xs,1<=x)->zoR xs=zac xs
 | [],_=>rfl
 | x :: xs,h=>by
  have ih:=zrb (xs:=xs) λy hy=>h y (qag _ hy)
  grind [zoR,zac]
variable{v:Nat}
theorem zHK{a:Nat}(h:a * 2 ^ v<9223372036854775808)(hv:v<64):zpr .i64 (a:Int) (v:Int)=some ((a * 2 ^ v:Nat):Int):=by
 unfold zpr;rw[if_pos (qbN v)];congr 1
 have h1:min (v:Int).toNat IntKind.i64.bits=v:=by
  rw[show IntKind.i64.bits=64 from rfl,qay]; exact qcj (by omega)
 rw[h1];have h2:(a:Int)* ((2:Int) ^ v)=((a * 2 ^ v:Nat):Int):=by simp
 rw[h2];exact zar h
structure L1Ok (num:List Nat) (c j a:Nat) (ns:List NN):Prop where
 len:ns.length=c
 bare:∀ x∈ns,x.ps=[]/\x.rows=[]
 prod:zoR (ns.map (·.c))=a
 low:a * 2 ^ (c - j)<=100
 done:∀(k v:Nat),k<j->num[k]? = some v->∃ x,ns[v]? = some x/\2<=x.c/\x.c<=3
 left:∀(k v:Nat),j<=k->num[k]? = some v->∃ x,ns[v]? = some x/\x.c=0
theorem zoI{d:DraftN}(hd:DraftOk d){j:Nat}:∃(zaF parents:Nat) (w:List Nat),zaF<=255 /\
  ((bif (decide ((j:Int)<((zc0 d).nodes.length:Int)))then(
(zaE (zc0 d).nodes (j:Int)).bind λx9=>
some (x9.zaF,x9.parents,x9.w))
else(
some (0,0,[])):Option ((Int×Int×(List Int)))))=some ((zaF:Int),(parents:Int),iL w):=by
 have hl:(zc0 d).nodes.length=d.nodes.length:=by simp[zc0]
 by_cases hj:j<d.nodes.length
 .refine⟨d.nodes[j].zaF,d.nodes[j].parents,d.nodes[j].w,hd.zaF _ (qam hj),?_⟩;rw[hl,zaz,qdv hj,qdt,zaA (by rw[hl]; exact hj),qaa];simp[zc0,zr0]
 refine⟨0,0,[],by omega,?_⟩;rw[hl,zaz,qdw hj,qdu];rfl
theorem zAq{d:DraftN}(hd:DraftOk d){num:List Nat}{c:Nat}(hc:znL d=c)(hp:PermOk c num):∀(n j a:Nat) (ns:List NN),L1Ok num c j a ns->j<=c->c - j<n ->
  ∃(ns':List NN) (a':Nat),L1Ok num c c a' ns'/\zbN (zc0 d) (iL num) n (a:Int) (j:Int) (ns.map nd)=some (ns'.map nd)
 | 0,_,_,_,_,_,h=>absurd h (qaj _)
 | n+1,j,a,ns,h1,h2,h3=>by
  have hc5:c<=5:=by rw[<- hc]; exact qcK _ _
  unfold zbN;rw[zqN,hc];by_cases hj:j<c
  .rw[zaz,qdv hj,qdt];obtain⟨zaF,parents,w,hcard,e⟩:=zoI hd (j:=j);rw[e,qaa];simp only[];have hjn:j<num.length:=by rw[hp.len]; exact hj
   have hv:num[j]<ns.length:=by rw[h1.len]; exact hp.lt _ (qam hjn)
   obtain⟨x0,hx0,hx00⟩:=h1.left j num[j] (qap _) (qac hjn);have hx1:ns[num[j]]=x0:=by rw[qac hv]at hx0; exact qae hx0
   have hbare:=h1.bare _ (qam hv);have hpow:1<=2 ^ (c - 1 - j):=Nat.one_le_two_pow;have hsplit:2 ^ (c - j)=2 * 2 ^ (c - 1 - j):=by rw[show c - j=(c - 1 - j)+1 by omega,qdg,qaV]
   have hlow:=h1.low;have hle:a * 2 ^ (c - 1 - j)<=100:=qaq (qcl a (by omega)) hlow;have ha:a<=100:=qaq (qaJ a hpow) hle;have step:∀ b:Nat,2<=b->b<=3->a * b * 2 ^ (c - 1 - j)<=100->∃(ns':List NN) (a':Nat),L1Ok num c c a' ns' /\
     ((zaE (iL num) (j:Int)).bind λx14=>(zaE (ns.map nd) x14).bind λx16=>(zfl (ns.map nd) x14 (S_api_Node.mk (b:Int) x16.parents x16.rows)).bind λy18=>
      zbN (zc0 d) (iL num) n (w64 ((a:Int)* (b:Int))) (w64 ((j:Int)+1)) y18)=some (ns'.map nd):=by
    intro b hb1 hb2 hb3;have hab:a * b<=100:=qaq (qaJ _ hpow) hb3
    obtain⟨ns',a',f1,f2⟩:=zAq hd hc hp n (j+1) (a * b) (ns.set num[j] ⟨b,ns[num[j]].ps,ns[num[j]].rows⟩) {
     len:=by simpa using h1.len
     bare:=λy hy=>by
      rcases qcZ hy with hy | hy
      .exact h1.bare y hy
      subst hy; exact hbare
     prod:=by
      rw[qdq,zn3 (c:=b) (by rw[qbg,qac hv,hx1]; simp[hx00]) (by omega),h1.prod]
     low:=by rw[show c - (j+1)=c - 1 - j by omega]; exact hb3
     done:=λk v hk hkv=>by
      by_cases hkj:k=j
      .subst hkj;rw[qac hjn]at hkv;have:=qae hkv;subst this;exact⟨_,qa0 hv,hb1,hb2⟩
      obtain⟨x,g1,g2⟩:=h1.done k v (by omega) hkv;refine⟨x,?_,g2⟩;rw[qaK,g1];intro hh;have hk':=(qab.1 hkv);have hkl:k<num.length:=hk'.1;exact qbi.1 hp.nod k j hkl hjn (by omega) (by rw[hk'.2]; exact hh.symm)
     left:=λk v hk hkv=>by
      obtain⟨x,g1,g2⟩:=h1.left k v (by omega) hkv;refine⟨x,?_,g2⟩;rw[qaK,g1];intro hh;have hk':=(qab.1 hkv);have hkl:k<num.length:=hk'.1
      exact qbi.1 hp.nod j k hjn hkl (by omega) (by rw[hk'.2]; exact hh) } hj (by omega)
    refine⟨ns',a',f1,?_⟩
    rw[zaW hjn,qaa,zdc hv,qaa,show S_api_Node.mk (b:Int) (nd ns[num[j]]).parents (nd ns[num[j]]).rows=nd ⟨b,ns[num[j]].ps,ns[num[j]].rows⟩from rfl,
     zia hv,qaa,<- qaL,zar (by omega),zaf (by omega),f2]
   have hw1:w64 (2+w64 ((zaF:Int).tmod 2))=((2+zaF % 2:Nat):Int):=by
    rw[show((zaF:Int).tmod 2)=((zaF % 2:Nat):Int)from rfl,zar (by omega),show(2:Int)+((zaF % 2:Nat):Int)=((2+zaF % 2:Nat):Int) by omega,zar (by omega)]
   have hac:a * (2+zaF % 2)<=100 * 3:=qa2 ha (by omega);have hbig:a * (2+zaF % 2)* 2 ^ (c - 1 - j)<=300 * 2 ^ 4:=qa2 hac (qbs (by decide) (by omega));have hcc:w64 (((c:Nat):Int) - 1)=((c - 1:Nat):Int):=by rw[show((c:Nat):Int) - 1=((c - 1:Nat):Int) by omega,zar (by omega)]
   have hcj:w64 (((c - 1:Nat):Int) - (j:Int))=((c - 1 - j:Nat):Int):=by rw[show((c - 1:Nat):Int) - (j:Int)=((c - 1 - j:Nat):Int) by omega,zar (by omega)]
   rw[hw1,hcc,hcj,zbH (by omega),<- qaL,zar (by omega),zHK (by omega) (by omega),qaa];by_cases hbg:100<a * (2+zaF % 2)* 2 ^ (c - 1 - j)
   .obtain⟨ns',a',f1,f2⟩:=step 2 (by omega) (by omega) (by rw[qaZ,<- hsplit]; exact hlow)
    grind
   grind
  grind
structure L2Ok (num:List Nat) (g c:Nat) (cs:List Nat) (i:Nat) (ns:List NN):Prop where
 len:ns.length=c
 zah:ns.map (·.c)=cs
 done:∀(k v:Nat) (x:NN),k<i->num[k]? = some v->ns[v]? = some x->NodeOk num g cs k x
 left:∀(k v:Nat) (x:NN),i<=k->num[k]? = some v->ns[v]? = some x->x.ps=[]/\x.rows=[]
theorem zib{m:Nat}(hm:1<=m):∀ {xs:List Nat},(∀ x∈xs,x<=m)->zac xs<=m ^ xs.length
 | [],_=>qap 1
 | x :: xs,h=>by
  have ih:=zib hm (xs:=xs) λy hy=>h y (qag _ hy)
  rw[qaC,qdg,qaV];exact qa2 (h x qai) ih
theorem zAs{xs:List Nat}(h:xs.Nodup){i j w:Nat}(hi:xs[i]? = some v)(hj:xs[j]? = some w)(hne:i≠j):v≠w:=by
 grind [qbi]
theorem zzO{d:DraftN}(hd:DraftOk d){num:List Nat}{c N:Nat}{cs:List Nat}(hc:znL d=c)(hp:PermOk c num)(hs:∀ x∈cs,1<=x/\x<=3)(hN:1025<=N):∀(n i:Nat) (ns:List NN),L2Ok num (1+d.grain % 60) c cs i ns->i<=c->c - i<n ->
  ∃ ns':List NN,L2Ok num (1+d.grain % 60) c cs c ns'/\zb9 N (zc0 d) (iL num) n (i:Int) (ns.map nd)=some (ns'.map nd)
 | 0,_,_,_,_,h=>absurd h (qaj _)
 | n+1,i,ns,h1,h2,h3=>by
  have hc5:c<=5:=by rw[<- hc]; exact qcK _ _
  unfold zb9;rw[zqN,hc];by_cases hi:i<c
  .rw[zaz,qdv hi,qdt];obtain⟨zaF,parents,w,hcard,e⟩:=zoI hd (j:=i);rw[e,qaa];simp only[];have hin:i<num.length:=by rw[hp.len]; exact hi
   have hget:num[i]? = some num[i]:=qac hin;have hlen:=h1.len;have hcl:cs.length=c:=by rw[<- h1.zah,qak,h1.len]
   have hv:num[i]<ns.length:=by rw[h1.len]; exact hp.lt _ (qam hin)
   obtain⟨b1,b2⟩:=h1.left i num[i] ns[num[i]] (qap _) hget (qac hv);obtain⟨qs,e2,hq⟩:=zBR (num:=num) (ps8:=(parents:Int)) (i:=i) (ns:=ns) (v:=num[i]) (by omega) (by rw[hp.len]; omega) (by omega) hp.nod hv b1;rw[h1.len]at e2 hq;have hg:w64 (1+w64 ((zc0 d).grain.tmod 60))=((1+d.grain % 60:Nat):Int):=by
    grind [zc0,zar]
   have hset:(ns.set num[i] ⟨ns[num[i]].c,qs,ns[num[i]].rows⟩)[num[i]]'(by simpa using hv)=⟨ns[num[i]].c,qs,ns[num[i]].rows⟩:=by simp
   have hcs1:(ns.set num[i] ⟨ns[num[i]].c,qs,ns[num[i]].rows⟩).map (·.c)=cs:=by rw[znR (x:=⟨ns[num[i]].c,qs,ns[num[i]].rows⟩) hv rfl,h1.zah]
   have hcv:1<=ns[num[i]].c/\ns[num[i]].c<=3:=hs _ (by rw[<- h1.zah]; exact qaB.2 ⟨_,qam hv,rfl⟩);have hco:zeM (ns.set num[i] ⟨ns[num[i]].c,qs,ns[num[i]].rows⟩) qs=qs.map λp=>cs.getD p 0:=by unfold zeM; rw[hcs1]
   have hqs:∀ x∈(qs.map λp=>cs.getD p 0),1<=x/\x<=3:=by
    intro x hx;obtain⟨p,hpq,rfl⟩:=qaB.1 hx;have hpl:p<cs.length:=by rw[hcl]; exact hq.lt p hpq
    refine hs _ ?_;simp[hpl]
   have hprod:zac (qs.map λp=>cs.getD p 0)<=3 ^ 3:=by
    refine qaq (zib (m:=3) (by omega) λx hx=>(hqs x hx).2) ?_;rw[qak];exact qbs (by decide) hq.len
   obtain⟨rows,r1,r2⟩:=zBL (g:=1+d.grain % 60) (N:=N) (W:=w) (ns:=ns.set num[i] ⟨ns[num[i]].c,qs,ns[num[i]].rows⟩) (v:=num[i]) (by omega) (by simp; omega) (by simpa using hv)
    (by rw[hset]; intro p hpq; rw[qaI,h1.len]; exact hq.lt p hpq) (by rw[hset]; have:=hq.len; simp; omega) (by rw[hset]; exact hcv.1) (by rw[hset]; have:=hcv.2; simp; omega)
    (by rw[hset,hco]; exact λx hx=>(hqs x hx).1) (by rw[hset,hco]; exact qaq hprod (by decide)) (by rw[hset]; exact b2) hN
   simp only[hset,hco,qc4]at r1 r2
   obtain⟨ns',f1,f2⟩:=zzO hd hc hp hs hN n (i+1) (ns.set num[i] ⟨ns[num[i]].c,qs,rows⟩) {
    len:=by simpa using h1.len
    zah:=by rw[znR (x:=⟨ns[num[i]].c,qs,rows⟩) hv rfl,h1.zah]
    done:=λk v x hk hkv hx=>by
     by_cases hki:k=i
     .subst hki;rw[hget]at hkv;have:=qae hkv;subst this;rw[qa0 hv]at hx;have:=qae hx;subst this;exact⟨by rw[hcl]; exact hq,r1⟩
     rw[qaK (zAs hp.nod hget hkv (by omega))]at hx;exact h1.done k v x (by omega) hkv hx
    left:=λk v x hk hkv hx=>by
     rw[qaK (zAs hp.nod hget hkv (by omega))]at hx
     exact h1.left k v x (by omega) hkv hx } hi (by omega)
   refine⟨ns',f1,?_⟩;rw[zaW hin,qaa,e2,qaa,hg,r2,qaa,zaf (by omega),f2]
  grind
theorem zy5{d:DraftN}(hd:DraftOk d){N:Nat}(hN:1025<=N):
  ∃(num:List Nat) (ns:List NN),NetOk num (1+d.grain % 60) ns/\ns.length<=5/\zb2 N (zc0 d)=some ⟨((1+d.grain % 60:Nat):Int),ns.map nd⟩:=by
 have hc5:znL d<=5:=qcK _ _;have hc1:1<=znL d:=by unfold znL; omega
 obtain⟨num,hp,e1⟩:=zBJ (c:=znL d) (N:=N) (os:=d.order) (wh:=0) hc5 (by omega) hd.order;have hpl:=hp.len;have h0:∀ v,v<znL d->(List.replicate (znL d) (⟨0,[],[]⟩:NN))[v]? = some ⟨0,[],[]⟩:=λv hv=>by simp[hv]
 obtain⟨ns1,a,h1,e2⟩:=zAq hd rfl hp (znL d+2) 0 1 (List.replicate (znL d) ⟨0,[],[]⟩) {
  len:=by simp
  bare:=λx hx=>by rw[(qc6.1 hx).2]; exact⟨rfl,rfl⟩
  prod:=by
   rw[qcP];generalize znL d=c;induction c<;>grind [zoR]
  low:=by
   have:2 ^ (znL d - 0)<=2 ^ 5:=qbs (by decide) (by omega);omega
  done:=λk v hk hkv=>absurd hk (qaj _)
  left:=λk v hk hkv=>⟨_,h0 v (hp.lt v (qaA hkv)),rfl⟩ } (qar _) (by omega)
 have hcards:∀ x∈ns1,2<=x.c/\x.c<=3:=by
  intro x hx;obtain⟨v,hv⟩:=qbK hx;have hvl:v<znL d:=by rw[<- h1.len]; exact(qab.1 hv).1
  obtain⟨k,hk⟩:=qbK (hp.all v hvl);obtain⟨y,g1,g2⟩:=h1.done k v (by rw[<- hpl]; exact(qab.1 hk).1) hk;rw[hv]at g1;have:=qae g1;subst this;exact g2
 have hcs:∀ x∈ns1.map (·.c),1<=x/\x<=3:=by
  grind
 obtain⟨ns2,h2,e3⟩:=zzO hd rfl hp hcs hN (znL d+2) 0 ns1 ⟨h1.len,rfl,λk v x hk=>absurd hk (qaj _),λk v x hk hkv hx=>h1.bare x (qaA hx)⟩ (qar _) (by omega);have hl2:=h2.len;have hlow:=h1.low;refine⟨num,ns2,⟨by omega,by omega,by omega,by omega,?_,?_,by rw[h2.len]; exact hp,?_⟩,by omega,?_⟩
 .grind [Go.Dc.L2Ok]
 .grind [zrb,Go.Dc.L1Ok,Go.Dc.L2Ok]
 .grind [Go.Dc.L2Ok]
 have hg:w64 (1+w64 ((zc0 d).grain.tmod 60))=((1+d.grain % 60:Nat):Int):=by
  grind [zc0,zar]
 have hz:List.replicate (znL d) (S_api_Node.mk 0 [] [])=(List.replicate (znL d) (⟨0,[],[]⟩:NN)).map nd:=by rw[qcP]; rfl
 have e2':=e2;have e3':=e3;rw[show((0:Nat):Int)=0 from rfl]at e2' e3';rw[show((1:Nat):Int)=1 from rfl]at e2'
 grind [zb2,zqN,zdH,zc0]
def zbs(xs:List Nat):Nat:=xs.foldl (λm p=>m ||| 2 ^ p) 0
theorem zr1(xs:List Nat)(p:Nat):zbs (xs ++ [p])=zbs xs ||| 2 ^ p:=by simp[zbs]
theorem zot:∀(xs:List Nat) (m i:Nat),(xs.foldl (λm p=>m ||| 2 ^ p) m).testBit i=(m.testBit i || decide (i∈xs))
 | [],m,i=>by simp
 | x :: xs,m,i=>by
  rw[qcR,zot xs,qcN,qcI,Bool.or_assoc]
  grind
theorem zcm(xs:List Nat)(i:Nat):(zbs xs).testBit i=decide (i∈xs):=by
 unfold zbs; rw[zot]; simp
theorem zsK:∀(xs:List Nat) (m:Nat),m<18446744073709551616->(∀ x∈xs,x<64)->xs.foldl (λm p=>m ||| 2 ^ p) m<18446744073709551616
 | [],m,h,_=>h
 | x :: xs,m,h,hx=>zsK xs _ (qbZ (n:=64) h (qbh (by decide) (hx x qai))) λy hy=>hx y (qag _ hy)
theorem zfX{xs:List Nat}(h:∀ x∈xs,x<64):zbs xs<18446744073709551616:=zsK xs 0 (by decide) h
def Sub(a b:Nat):Prop:=∀ i,a.testBit i=true->b.testBit i=true
theorem zuB{a b:Nat}(ha:a<18446744073709551616)(hb:b<18446744073709551616):diff a b=0↔Sub a b:=by
 constructor
 .intro h i hi;have:=zjp (i:=i) ha hb
  simp_all
 intro h;apply qcC<;>grind [zjp,Sub]
theorem zjL{cs ps:List Nat}{nodes:S_api_Net}{sets order:List Int}{x:S_api_Node}(hx:x.parents=iL ps)(hp:Pl cs.length ps)(hl:ps.length<=8)(hc:∀ p∈ps,1<=cs.getD p 0):∀(n i a:Nat),i<=ps.length ->
  a * zac ((ps.drop i).map λp=>cs.getD p 0)<=65536->ps.length - i<n ->
  zbp x ⟨nodes,iL cs,sets,order⟩ n (a:Int) (i:Int)=some ((a * zac ((ps.drop i).map λp=>cs.getD p 0):Nat):Int)
 | 0,_,_,_,_,h=>absurd h (qaj _)
 | n+1,i,a,h1,h2,h3=>by
  unfold zbp;rw[hx,zai];by_cases hi:i<ps.length
  .have e2:a * zac ((ps.drop i).map λp=>cs.getD p 0)=a * cs.getD ps[i] 0 * zac ((ps.drop (i+1)).map λp=>cs.getD p 0):=by
    rw[qas hi]; exact(qaZ _ _ _).symm
   rw[e2]at h2;have hb:ps[i]<cs.length:=hp _ (qam hi);have hq:1<=zac ((ps.drop (i+1)).map λp=>cs.getD p 0):=zey λx hx=>by
    obtain⟨p,hp1,rfl⟩:=qaB.1 hx;exact hc p (qcA hp1)
   have hle:a * cs.getD ps[i] 0<=65536:=qaq (qaJ _ hq) h2;have he:cs[ps[i]]=cs.getD ps[i] 0:=by simp[hb]
   rw[zaz,qdv hi,qdt,zaW hi,qaa,zaW hb,qaa,he,<- qaL,zar (by omega),zaf (by omega),
    zjL hx hp hl hc n (i+1) _ hi h2 (by omega),e2]
  grind [zac]
theorem zn0{y:Int×List Int}{zs:List Nat}(hy:y.2=iL zs)(hl:zs.length<=8):∀(n i r:Nat),i<=zs.length->(zs.drop i).sum<=r->r<=65536->zs.length - i<n ->
  zaJ y n (r:Int) (i:Int)=some (.go ((r - (zs.drop i).sum:Nat):Int))
 | 0,_,_,_,_,_,h=>absurd h (qaj _)
 | n+1,i,r,h1,h2,hr,h3=>by
  unfold zaJ;rw[hy,zai];by_cases hi:i<zs.length
  .have e:(zs.drop i).sum=zs[i]+(zs.drop (i+1)).sum:=by rw[qas hi,qcw]
   rw[e]at h2
   rw[zaz,qdv hi,qdt,zaW hi,qaa,show decide (((zs[i]:Nat):Int)<0)=false from qdw (by omega),qdu,qaa,
    show decide ((r:Int)<((zs[i]:Nat):Int))=false from qdw (by omega),qdu,show((r:Int) - ((zs[i]:Nat):Int))=((r - zs[i]:Nat):Int) by omega,zar (by omega),zaf (by omega),
    zn0 hy hl n (i+1) _ hi (by omega) (by omega) (by omega),e,Nat.sub_sub]
  grind
theorem zpg{g c:Nat}{nw:S_net_network}{x:S_api_Node}(hg:nw.net.grain=(g:Int))(hg2:g<=60)(hc:x.zaF=(c:Int))(hc8:c<=8):∀(L:List (Int×List Int)),(∀ y∈L,∃ zs:List Nat,y.2=iL zs/\zs.length=c/\zs.sum=g)->
  zaC nw x L=some (.go ())
 | [],_=>rfl
 | y :: L,h=>by
  obtain⟨zs,h1,h2,h3⟩:=h y qai;unfold zaC;have e:=zn0 h1 (by omega) (zs.length+2) 0 g (qar _) (by rw[qa4]; omega) (by omega) (by omega);rw[qa4,h3,qcf,show((0:Nat):Int)=0 from rfl]at e;rw[hg,h1,zai,zap,e,qaa];simp only[];rw[hc,h2,show((c:Int)==(c:Int))=true by simp,qdt,qaa,show(!((0:Int)== 0))=false from rfl,qdu];exact zpg hg hg2 hc hc8 L λy hy=>h y (qag _ hy)
variable{g:Nat}
theorem zub{cs:List Nat}{nodes:List S_api_Node}{sets order:List Int}{x:NN}(hg2:g<=60)(hp:Pl cs.length x.ps)(hl:x.ps.length<=8)(hc:∀ p∈x.ps,1<=cs.getD p 0)(hc8:x.c<=8)(hm:zac (x.ps.map λp=>cs.getD p 0)<=65536)(hr:RowsOk g x.c (zac (x.ps.map λp=>cs.getD p 0)) x.rows):zaV ⟨⟨(g:Int),nodes⟩,iL cs,sets,order⟩ (nd x)=some true:=by
 unfold zaV;have e:=zjL (x:=nd x) (nodes:=⟨(g:Int),nodes⟩) (sets:=sets) (order:=order) rfl hp hl hc (x.ps.length+2) 0 1 (qar _) (by simpa using hm) (by omega);rw[show((0:Nat):Int)=0 from rfl,show((1:Nat):Int)=1 from rfl,qa4,qa6]at e;have hrl:(nd x).rows.length=x.rows.length:=by simp[nd]
 rw[show(nd x).parents=iL x.ps from rfl,zai,zap,e,qaa,hrl,hr.len,show(((zac (x.ps.map λp=>cs.getD p 0):Nat):Int)==((zac (x.ps.map λp=>cs.getD p 0):Nat):Int))=true by simp,qdt];unfold ze5;rw[qaa];have hs:zeT (nd x).rows=some ():=by
  unfold zeT;rw[if_pos (by rw[hrl,hr.len]; omega)]
 rw[hs,qaa,zpg (g:=g) (c:=x.c) rfl hg2 rfl hc8,qaa];intro y hy;unfold zro at hy;obtain⟨q,hq,rfl⟩:=qaB.1 hy;have hq1:q.1∈(nd x).rows:=by
  have:=List.mem_zipIdx' hq;rw[this.2]; exact qam _
 obtain⟨zs,hz,hz2⟩:=qaB.1 hq1;exact⟨zs,hz2.symm,hr.row zs hz⟩
def zbZ(g:Nat)(ns:List NN):S_api_Net:=⟨(g:Int),ns.map nd⟩
theorem zxi{g P:Nat}{ns:List NN}(hn:ns.length<=8)(hc:∀ x∈ns,1<=x.c/\x.c<=4)(hP:P<=65536):∀(n:Nat) (xs ys:List NN) (a:Nat),xs ++ ys=ns->a * zac (ys.map (·.c))=P->ys.length<n ->
  zb4 (zbZ g ns) n (a:Int) (xs.length:Int) (iL (xs.map (·.c)++ List.replicate ys.length 0))=some (.go ((P:Int),iL (ns.map (·.c))))
 | 0,_,_,_,_,_,h=>absurd h (qaj _)
 | n+1,xs,[],a,h1,h2,h3=>by
  grind [zb4,zac,zbZ]
 | n+1,xs,y :: ys,a,h1,h2,h3=>by
  unfold zb4;have hl:(zbZ g ns).nodes.length=ns.length:=by simp[zbZ]
  have hxn:xs.length<ns.length:=by rw[<- h1]; simp
  have hy:ns[xs.length]=y:=by subst h1; simp
  have hyc:=hc y (by rw[<- h1]; simp);have e2:a * y.c * zac (ys.map (·.c))=P:=by rw[<- h2]; exact qaZ _ _ _
  have hq:1<=zac (ys.map (·.c)):=zey λc hcm=>by
   obtain⟨z,hz,rfl⟩:=qaB.1 hcm;exact(hc z (by rw[<- h1]; simp[hz])).1
  have hle:a * y.c<=P:=by rw[<- e2]; exact qaJ _ hq
  have ih:=zxi hn hc hP (g:=g) n (xs ++ [y]) ys (a * y.c) (by rw[<- h1]; simp) e2 (by simp at h3; omega)
  rw[hl,zaz,qdv hxn,qdt,show zaE (zbZ g ns).nodes (xs.length:Int)=some (nd y) by rw[<- hy]; exact zdc hxn,qaa,
   show(nd y).zaF=(y.c:Int)from rfl,show decide ((y.c:Int)<1)=false from qdw (by omega),qdu,qaa,show decide ((4:Int)<(y.c:Int))=false from qdw (by omega),qdu]
  have hxl:((xs.length:Nat):Int)=(((xs.map (·.c)).length:Nat):Int):=by simp
  rw[qaC,qaS,hxl,zd7,qaa,zgY,qaa,<- qaL,zar (by omega),zaf (by simp; omega),<- ih];simp
theorem zve{g v:Nat}{ns:List NN}{x:S_api_Node}{ps xs ys:List Nat}(hx:x.parents=iL ps)(hn:ns.length<=8)(hv:xs.length=v)(hp:∀ p∈ps,p<ns.length/\p≠v)(hinc:ps.Pairwise (· < ·)):∀(n i:Nat) (m:Nat) (lo:Int),i<=ps.length->m<18446744073709551616 ->
  (∀ p∈ps.drop i,lo<(p:Int))->ps.length - i<n ->
  zcE x (zbZ g ns) (v:Int) n lo (i:Int) (iL (xs ++ m :: ys))=some (.go (iL (xs ++ ((ps.drop i).foldl (λm p=>m ||| 2 ^ p) m):: ys)))
 | 0,_,_,_,_,_,_,h=>absurd h (qaj _)
 | n+1,i,m,lo,h1,h2,h4,h3=>by
  have hps:ps.length<=9223372036854775806\/True:=.inr trivial;unfold zcE;have hl:(zbZ g ns).nodes.length=ns.length:=by simp[zbZ]
  rw[hx,zai,hl];by_cases hi:i<ps.length
  .have hd:ps.drop i=ps[i]:: ps.drop (i+1):=qas hi;obtain⟨hp1,hp2⟩:=hp _ (qam hi);have hlo:=h4 ps[i] (by rw[hd]; exact qai);have hsm:i<=ps[i]:=by
    have:∀(j:Nat) (hj:j<ps.length),j<=ps[j]:=by
     intro j;induction j with
     | zero=>intro hj; exact qar _
     | succ j ih=>
      intro hj;have h6:=ih (by omega);have h7:=qbi.1 hinc j (j+1) (by omega) hj (by omega);omega
    exact this i hi
   have hgt:∀ p∈ps.drop (i+1),((ps[i]:Nat):Int)<(p:Int):=by
    intro p hp;obtain⟨k,hk,rfl⟩:=qbD.1 hp;rw[List.getElem_drop];have:=qbi.1 hinc i (i+1+k) hi (by simp at hk; omega) (by omega);omega
   have hpw:2 ^ ps[i]<18446744073709551616:=qbh (n:=64) (by decide) (by omega);have hm:m ||| 2 ^ ps[i]<18446744073709551616:=qbZ (n:=64) h2 hpw;have ih:=zve (g:=g) (ys:=ys) hx hn hv hp hinc n (i+1) (m ||| 2 ^ ps[i]) (ps[i]:Int) hi hm hgt (by omega)
   rw[zaz,qdv hi,qdt,zaW hi,qaa,show decide (((ps[i]:Nat):Int)<=lo)=false from qdw (by omega),qdu,
    show decide (((ns.length:Nat):Int)<=((ps[i]:Nat):Int))=false from qdw (by omega),qdu,qaa,show(((ps[i]:Nat):Int)==(v:Int))=false by simp; omega,qdu,
    <- hv,zd7,qaa,zt7 (by omega),qaa,orU h2 hpw,zgY,qaa,zaf (by omega),hv,ih,hd,qcR]
  grind
structure RightN (g:Nat) (ns:List NN):Prop where
 g1:1<=g
 g2:g<=60
 n1:1<=ns.length
 n2:ns.length<=8
 zaF:∀ x∈ns,1<=x.c/\x.c<=4
 prod:zac (ns.map (·.c))<=1024
 inc:∀ x∈ns,x.ps.Pairwise (· < ·)
 lt:∀ x∈ns,∀ p∈x.ps,p<ns.length
 rows:∀ x∈ns,RowsOk g x.c (zac (x.ps.map λp=>(ns.map (·.c)).getD p 0)) x.rows
 rk:∃ rk:Nat->Nat,(∀ v,rk v<=8)/\∀ v x,ns[v]? = some x->∀ p∈x.ps,rk p<rk v
theorem zhq{n:Nat}{ps:List Nat}(h:ps.Pairwise (· < ·))(hp:∀ p∈ps,p<n):ps.length<=n:=by
 have:∀(j:Nat) (hj:j<ps.length),j<=ps[j]:=by
  intro j;induction j<;>grind [qbi]
 grind [qam]
variable{ns:List NN}
theorem RightN.zGN(h:RightN g ns){x:NN}(hx:x∈ns):x.ps.length<=8:=by
 have:=zhq (h.inc x hx) (h.lt x hx);have:=h.n2;omega
theorem RightN.ne(h:RightN g ns){x:NN}(hx:ns[v]? = some x):∀ p∈x.ps,p≠v:=by
 grind [RightN]
theorem RightN.zGn(h:RightN g ns){x:NN}(hx:x∈ns):∀ p∈x.ps,1<=(ns.map (·.c)).getD p 0/\(ns.map (·.c)).getD p 0<=4:=by
 grind [RightN]
theorem RightN.zFD(h:RightN g ns){x:NN}(hx:x∈ns):zac (x.ps.map λp=>(ns.map (·.c)).getD p 0)<=65536:=by
 refine qaq (zib (m:=4) (by omega) λy hy=>?_) ?_
 .grind [RightN]
 rw[qak];exact qaq (qbs (by decide) (h.zGN hx)) (by decide)
theorem zuw{g:Nat}{ns:List NN}(h:RightN g ns):∀(n:Nat) (xs ys:List NN),xs ++ ys=ns->ys.length<n ->
  zb5 (zbZ g ns) (iL (ns.map (·.c))) n (xs.length:Int) (iL (xs.map (λx=>zbs x.ps)++ List.replicate ys.length 0))=some (.go (iL (ns.map λx=>zbs x.ps)))
 | 0,_,_,_,h=>absurd h (qaj _)
 | n+1,xs,[],h1,h3=>by
  grind [zb5,zbZ]
 | n+1,xs,y :: ys,h1,h3=>by
  unfold zb5;have hl:(zbZ g ns).nodes.length=ns.length:=by simp[zbZ]
  have hxn:xs.length<ns.length:=by rw[<- h1]; simp
  have hn:=h.n2;have hy:ns[xs.length]=y:=by subst h1; simp
  have hyg:ns[xs.length]? = some y:=by rw[qac hxn,hy]
  have hym:y∈ns:=qaA hyg;have hcl:(ns.map (·.c)).length=ns.length:=by simp
  have hlt:∀ p∈y.ps,p<ns.length/\p≠xs.length:=λp hp=>⟨h.lt y hym p hp,h.ne hyg p hp⟩
  have hcs:=h.zGn hym;have hpl:=h.zGN hym;have hprod:=h.zFD hym;have hyc:=h.zaF y (by rw[<- h1]; simp);have ih:=zuw h n (xs ++ [y]) ys (by rw[<- h1]; simp) (by simp at h3; omega);have e3:=zve (g:=g) (ns:=ns) (x:=nd y) (xs:=xs.map λx=>zbs x.ps) (ys:=List.replicate ys.length 0) (v:=xs.length) rfl hn (by simp) hlt (h.inc y hym) (y.ps.length+2) 0 0 (-1) (qar _) (by decide) (λp hp=>by omega) (by omega);rw[show((0:Nat):Int)=0 from rfl,qa4]at e3;have e4:=zub (g:=g) (cs:=ns.map (·.c)) (nodes:=ns.map nd) (sets:=iL (xs.map (λx=>zbs x.ps)++ zbs y.ps :: List.replicate ys.length 0)) (order:=[]) (x:=y) h.g2 (by rw[hcl]; exact λp hp=>(hlt p hp).1) (by omega) (λp hp=>(hcs p hp).1) (by omega) hprod (h.rows y hym)
  rw[hl,zaz,qdv hxn,qdt,show zaE (zbZ g ns).nodes (xs.length:Int)=some (nd y) by rw[<- hy]; exact zdc hxn,qaa,qaC,qaS,
   show(nd y).parents.length=y.ps.length by simp[nd,zai],zap,e3,qaa]
  simp only[];rw[show(y.ps.foldl (λm p=>m ||| 2 ^ p) 0)=zbs y.ps from rfl];rw[show zbZ g ns=⟨(g:Int),ns.map nd⟩from rfl]at ih ⊢;rw[e4,qaa,qdt,zaf (by omega),<- ih];simp
def ziQ(ms:List Nat)(mask v:Nat):Prop:=mask.testBit v=false/\Sub (ms.getD v 0) mask
structure First (ms:List Nat) (mask v:Nat):Prop where
 lt:v<ms.length
 ready:ziQ ms mask v
 least:∀ u,u<v->¬ ziQ ms mask u
def zd5(ms os:List Nat):Prop:=∀ k v,os[k]? = some v->First ms (zbs (os.take k)) v
variable{os:List Nat}
theorem zd5.app{ms:List Nat}(h:zd5 ms os)(hv:First ms (zbs os) v):zd5 ms (os ++ [v]):=by
 grind [zd5]
theorem zd5.nod{ms:List Nat}(h:zd5 ms os):os.Nodup:=by
 rw[List.Nodup,qbi];intro i j hi hj hij he;have h1:=(h j os[j] (qac hj)).ready.1
 grind [zcm,List.mem_take_iff_getElem]
theorem zd5.lt{ms os:List Nat}(h:zd5 ms os):∀ x∈os,x<ms.length:=by
 intro x hx;obtain⟨k,hk⟩:=qbK hx;exact(h k x hk).lt
theorem zoS:∀ {xs ys:List Nat},xs.Nodup->(∀ x∈xs,x∈ys)->xs.length<=ys.length
 | [],_,_,_=>qar _
 | x :: xs,ys,h,hs=>by
  obtain⟨h1,h2⟩:=qbb.1 h;have hx:=hs x qai;have ih:=zoS (xs:=xs) (ys:=ys.erase x) h2 λy hy=>(List.mem_erase_of_ne (λq:y=x=>h1 (by rw[<- q]; exact hy))).2 (hs y (qag _ hy))
  grind
theorem zrJ{ms:List Nat}{mask:Nat}:∀ v,v<ms.length->ziQ ms mask v->∃ u,First ms mask u:=by
 intro v;induction v using Nat.strongRecOn with
 | ind v ih=>
  intro hv hr;by_cases h:∃ u,u<v/\ziQ ms mask u
  .grind
  exact⟨v,hv,hr,λu hu hur=>h ⟨u,hu,hur⟩⟩
def zau(ns:List NN):List Nat:=ns.map λx=>zbs x.ps
theorem RightN.zfX{g:Nat}{ns:List NN}(h:RightN g ns):∀ m∈zau ns,m<18446744073709551616:=by
 grind [Go.Dc.zfX,zau,Go.Dc.RightN]
theorem RightN.ready(h:RightN g ns)(os:List Nat){rk:Nat->Nat}(hrk:∀ v x,ns[v]? = some x->∀ p∈x.ps,rk p<rk v):∀(j v:Nat),rk v=j->v<ns.length->v ∉ os->∃ u,u<ns.length/\ziQ (zau ns) (zbs os) u:=by
 intro j;induction j using Nat.strongRecOn with
 | ind j ih=>
  intro v hj hvl hv;by_cases hp:∃ p,p∈ns[v].ps/\p ∉ os
  .grind [Go.Dc.RightN]
  refine⟨v,hvl,by rw[zcm]; simp[hv],λi hi=>?_⟩<;> grind [zcm,zau]
theorem RightN.next(h:RightN g ns)(hl:os.length<ns.length):∃ v,First (zau ns) (zbs os) v:=by
 obtain⟨rk,_,hrk⟩:=h.rk;by_cases hs:∀ x∈List.range ns.length,x∈os
 .have:=zoS qcM hs
  grind
 have:∃ x,x∈List.range ns.length/\x ∉ os:=qbj λhno=>hs λx hx=>qbj λhx2=>hno ⟨x,hx,hx2⟩
 obtain⟨x,hx,hxo⟩:=this;obtain⟨u,hu,hr⟩:=h.ready os hrk _ x rfl (qbd.1 hx) hxo;exact zrJ u (by simpa [zau]using hu) hr
theorem zox{ms:List Nat}{mask i:Nat}{β:Type}(hm:∀ m∈ms,m<18446744073709551616)(hk:mask<18446744073709551616)(hi:i<ms.length)(h64:i<64)(l:β):
  ∃ b:Bool,(b=true↔ziQ ms mask i)/\((zku .u64 (mask:Int) (i:Int)).bind λq7=>bif ((zkZ .u64 q7 1)== 0)then some (((zCZ .u64 ((ms[i]:Nat):Int) (mask:Int))== 0),l)else some (false,l))=some (b,l)/\
   ((zku .u64 (mask:Int) (i:Int)).bind λq7=>bif ((zkZ .u64 q7 1)== 0)then some ((zCZ .u64 ((ms[i]:Nat):Int) (mask:Int))== 0)else some false)=some b:=by
 obtain⟨q,h1,h2⟩:=zFw (a:=mask) (v:=i) hk h64;have hmi:=hm _ (qam hi);have hg:ms.getD i 0=ms[i]:=by simp[hi]
 simp only[h1,qaa,h2,zGC];cases hb:mask.testBit i with
 | true=>simp_all [ziQ]
 | false=>
  refine⟨(((diff ms[i] mask:Nat):Int)== 0),?_,rfl,rfl⟩<;> grind [ziQ,zuB]
theorem zkT{ms os:List Nat}{mask C v:Nat}(hn:ms.length<=8)(hm:∀ m∈ms,m<18446744073709551616)(hk:mask<18446744073709551616)(hC:os.length+1<=C)(hv:First ms mask v):∀(n i:Nat),i<=v->v - i<n ->
  zbG (iL ms) (mask:Int) C n (i:Int) (iL os)=some (.brk (((mask ||| 2 ^ v:Nat):Int),iL (os ++ [v])))
 | 0,_,_,h=>absurd h (qaj _)
 | n+1,i,h1,h3=>by
  unfold zbG;have hvl:=hv.lt;have hi:i<ms.length:=by omega
  obtain⟨b,hb,e,_⟩:=zox hm hk hi (by omega) (iL os);rw[zai,zaz,qdv hi,qdt,zaW hi,qaa,e,qaa];simp only[];by_cases hiv:i=v
  .subst hiv;have hpw:2 ^ i<18446744073709551616:=qbh (n:=64) (by decide) (by omega);rw[hb.2 hv.ready,qdt];unfold zpW;rw[if_pos (by simp[zai]; omega),qaa,zt7 (by omega),qaa,orU hk hpw];simp[iL]
  have:b=false:=by
   grind [First]
  rw[this,qdu,zaf (by omega),zkT hn hm hk hC hv n (i+1) (by omega) (by omega)]
theorem zod{g:Nat}{ns:List NN}(h:RightN g ns):∀(n:Nat) (os:List Nat),zd5 (zau ns) os->os.length<=ns.length->ns.length - os.length<n ->
  ∃ os',zd5 (zau ns) os'/\os'.length=ns.length/\zbS (iL (zau ns)) ns.length n ((zbs os:Nat):Int) (iL os)=some (.go (iL os'))
 | 0,_,_,_,h=>absurd h (qaj _)
 | n+1,os,h1,h2,h3=>by
  unfold zbS;have hml:(zau ns).length=ns.length:=by simp[zau]
  have hn:=h.n2;rw[zai,zai,hml,zaz];by_cases hl:os.length<ns.length
  .obtain⟨v,hv⟩:=h.next hl;have hvl:=hv.lt;have hk:zbs os<18446744073709551616:=Go.Dc.zfX λx hx=>by
    have:=h1.lt x hx;omega
   have e:=zkT (os:=os) (C:=ns.length) (by omega) h.zfX hk (by omega) hv (ns.length+2) 0 (qar _) (by omega);rw[show((0:Nat):Int)=0 from rfl]at e;obtain⟨os',g1,g2,g3⟩:=zod h n (os ++ [v]) (h1.app hv) (by simp; omega) (by simp; omega)
   grind [zr1]
  grind
theorem zxn(h:RightN g ns):
  ∃ os,zd5 (zau ns) os/\os.length=ns.length/\zcy (iL (zau ns))=some (iL os,true):=by
 have hml:(zau ns).length=ns.length:=by simp[zau]
 have hn:=h.n2;obtain⟨os,g1,g2,g3⟩:=zod h (ns.length+2) [] (λk v hk=>by simp at hk) (qar _) (by simp);refine⟨os,g1,g2,?_⟩;unfold zcy;rw[zai,hml];have hcap:zzG 8 ((ns.length:Nat):Int)=some ns.length:=by
  grind [zzG,zaj]
 rw[hcap,qaa,show(((ns.length:Nat):Int) - ((([]:List Int).length:Nat):Int)+2).toNat=ns.length+2 by simp; omega]
 grind [zbs,iL]
theorem zwA(h:RightN g ns):
  ∃ os,zd5 (zau ns) os/\os.length=ns.length/\zdu (zbZ g ns)=some (⟨zbZ g ns,iL (ns.map (·.c)),iL (zau ns),iL os⟩,0):=by
 obtain⟨os,g1,g2,g3⟩:=zxn h;refine⟨os,g1,g2,?_⟩;have h1:=h.g1;have h2:=h.g2;have h3:=h.n1;have h4:=h.n2;have hl:(zbZ g ns).nodes.length=ns.length:=by simp[zbZ]
 have hp:=h.prod;have e1:=zxi (g:=g) (P:=zac (ns.map (·.c))) h.n2 h.zaF (by omega) (ns.length+2) [] ns 1 rfl (qa6 _) (by omega);have e2:=zuw h (ns.length+2) [] ns rfl (by omega);simp only[qc2,qaP,qaU]at e1 e2;rw[show((0:Nat):Int)=0 from rfl]at e1 e2;rw[show((1:Nat):Int)=1 from rfl]at e1;have hz:List.replicate ns.length (0:Int)=iL (List.replicate ns.length 0):=by simp[iL]
 grind [zdu,zbZ,zdH,zau]
end Go.Dc
namespace Go.Dc
open Go Go.Mx Go.Lx Go.Proofs
end Go.Dc
namespace Go.Dc
open Go Go.Mx Go.Lx
inductive Reach (ms:List Nat):Nat->Nat->Prop
 | refl (i:Nat):Reach ms i i
 | step {s p i:Nat}:(ms.getD s 0).testBit p=true->Reach ms p i->Reach ms s i
structure GOk (ms:List Nat) (rk:Nat->Nat):Prop where
 len:ms.length<=8
 lt:∀ m∈ms,m<18446744073709551616
 down:∀ v p,(ms.getD v 0).testBit p=true->p<ms.length/\rk p<rk v
variable{c:Nat}
theorem zys{ms:List Nat}{s i:Nat}(h:Reach ms s i)(hs:c.testBit s=true)(hc:∀ i,c.testBit i=true->Sub (ms.getD i 0) c):c.testBit i=true:=by
 induction h with
 | refl i=>exact hs
 | step h1 h2 ih=>exact ih (hc _ hs _ h1)
variable{ns:List NN}
theorem RightN.gok{g:Nat}(h:RightN g ns):∃ rk:Nat->Nat,GOk (zau ns) rk/\∀ v,rk v<=8:=by
 have hml:(zau ns).length=ns.length:=by simp[zau]
 have hn:=h.n2;obtain⟨rk,h1,h2⟩:=h.rk;refine⟨rk,⟨by omega,h.zfX,λv p hp=>?_⟩,h1⟩;by_cases hv:v<ns.length
 .rw[show(zau ns).getD v 0=zbs ns[v].ps by simp[zau,hv],zcm]at hp;have hp:=of_decide_eq_true hp;exact⟨by rw[hml]; exact h.lt _ (qam hv) p hp,h2 v _ (qac hv) p hp⟩
 rw[show(zau ns).getD v 0=0 by simp[zau,hv]]at hp;simp at hp
theorem zqm{xs:List Nat}(h:∀ m∈xs,m<18446744073709551616)(i:Nat):xs.getD i 0<18446744073709551616:=by
 by_cases hi:i<xs.length
 .rw[show xs.getD i 0=xs[i] by simp[hi]]; exact h _ (qam hi)
 rw[show xs.getD i 0=0 by simp[hi]]; decide
variable{i:Nat}
theorem zzV{xs:List Nat}(h:i<xs.length):zaE (iL xs) (i:Int)=some ((xs.getD i 0:Nat):Int):=by
 rw[zaW h]; simp[h]
theorem Reach.tr{ms:List Nat}{a b:Nat}(h1:Reach ms a b)(h2:Reach ms b c):Reach ms a c:=by
 induction h1 with
 | refl=>exact h2
 | step e _ ih=>exact .step e (ih h2)
theorem NetOk.right{num:List Nat}{g:Nat}(h:NetOk num g ns):RightN g ns:=by
 have at_v:∀ v (hv:v<ns.length),∃ j,num[j]? = some v/\NodeOk num g (ns.map (·.c)) j ns[v]:=by
  intro v hv;obtain⟨j,hj,hjv⟩:=qbD.1 (h.perm.all v hv);exact⟨j,by rw[qac hj,hjv],h.node j v ns[v] (by rw[qac hj,hjv]) (qac hv)⟩
 have at_x:∀ x∈ns,∃ j v,num[j]? = some v/\NodeOk num g (ns.map (·.c)) j x:=by
  intro x hx;obtain⟨v,hv,rfl⟩:=qbD.1 hx;obtain⟨j,h1,h2⟩:=at_v v hv;exact⟨j,v,h1,h2⟩
 refine⟨h.g1,h.g2,h.n1,h.n2,h.zaF,h.prod,λx hx=>?_,λx hx p hp=>?_,λx hx=>?_,?_⟩
 .obtain⟨j,v,_,h2⟩:=at_x x hx;exact h2.par.inc
 .obtain⟨j,v,_,h2⟩:=at_x x hx;have:=h2.par.lt p hp;simpa using this
 .obtain⟨j,v,_,h2⟩:=at_x x hx;exact h2.rows
 refine⟨λv=>min (num.idxOf v) 8,λv=>qcK _ _,λv x hx p hp=>?_⟩;obtain⟨hv,rfl⟩:=qab.1 hx;obtain⟨j,h1,h2⟩:=at_v v hv;have hin:=h2.par.mem p hp;obtain⟨hj,ej⟩:=qab.1 h1;obtain⟨k,hk,ek0⟩:=hin;obtain⟨hk2,ek⟩:=qab.1 ek0;have i1:num.idxOf v=j:=by rw[<- ej]; exact h.perm.nod.idxOf_getElem j hj
 have i2:num.idxOf p=k:=by rw[<- ek]; exact h.perm.nod.idxOf_getElem k hk2
 have hn:=h.perm.len;have hn8:=h.n2;simp only[i1,i2];omega
theorem zfv(a b:List Nat):zac (a ++ b)=zac a * zac b:=by
 induction a with
 | nil=>simp[zac]
 | cons x a ih=>
  rw[qa8];show x * zac (a ++ b)=x * zac a * zac b;rw[ih,qaZ]
theorem zqs:∀(a b:List Nat) (j:Nat),0<zac b->j<zac a * zac b->dig (a ++ b) j=dig a (j / zac b)++ dig b (j % zac b)
 | [],b,j,_,h=>by
  have h:j<zac b:=by simpa [zac]using h
  simp[dig,qa7 h]
 | c :: a,b,j,hb,h=>by
  have ha:0<zac a:=by
   rcases Nat.eq_zero_or_pos (zac a)with h0 | h0
   .have:zac (c :: a)=c * zac a:=rfl;rw[this,h0]at h;simp at h
   exact h0
  rw[qa8];simp only[dig];rw[zqs a b (j % zac (a ++ b)) hb (by rw[zfv]; exact qbk _ (qc0 ha hb)),zfv,qa8];have e1:j / (zac a * zac b)=j / zac b / zac a:=by rw[qc9,qaV]
  have e2:j % (zac a * zac b) / zac b=j / zac b % zac a:=by rw[qaV,Nat.mod_mul_right_div_self]
  have e3:j % (zac a * zac b) % zac b=j % zac b:=Nat.mod_mod_of_dvd _ ⟨zac a,qaV _ _⟩;rw[e1,e2,e3]
def zCU(B c:Nat)(rows:List (List Nat))(j:Nat):Nat:=(rows.getD (j / (c * B)* B+j % B) []).getD (j / B % c) 0
variable{B x:Nat}
theorem zuo{j:Nat}(hB:0<B)(hx:x<c)(h:(j / (c * B)* B+j % B)* c+j / B % c=i * c+x):j=(i / B * c+x)* B+i % B:=by
 have hc:0<c:=by omega
 have h1:j / B % c=x:=by
  have:=congrArg (· % c) h;rw[qce,qbB,Nat.mod_mod,qce (i * c),qbB,qa7 hx]at this;exact this
 have h2:j / (c * B)* B+j % B=i:=by
  have:(j / (c * B)* B+j % B)* c=i * c:=by omega
  exact Nat.eq_of_mul_eq_mul_right hc this
 have h3:i / B=j / (c * B):=by
  rw[<- h2,qce,qcx _ _ hB,qbX (qbk _ hB),qaR]
 have h4:i % B=j % B:=by
  rw[<- h2,qce,qbB,Nat.mod_mod]
 rw[h3,h4,<- h1];have e1:j / (c * B)=j / B / c:=by rw[qc9,qaV]
 rw[e1];have e2:=qb5 (j / B) c;have e3:=qb5 j B;rw[qaV c]at e2;rw[e2,qaV (j / B)];omega
variable{A:Nat}
theorem zD1(hi:i<A * B)(hx:x<c):(i / B * c+x)* B+i % B<A * c * B:=by
 have hB:0<B:=by
  rcases Nat.eq_zero_or_pos B with h | h
  .subst h; simp at hi
  exact h
 have h1:i / B<A:=qbL (by rw[qaV]; exact hi);have h2:i % B<B:=qbk _ hB;have h3:i / B * c+x<A * c:=by
  have:=qau c (show i / B+1<=A from h1);rw[qaQ,qa6]at this;omega
 have h4:=qau B (show i / B * c+x+1<=A * c from h3);rw[qaQ,qa6]at h4;omega
theorem zD9(hB:0<B)(hx:x<c):((i / B * c+x)* B+i % B) / (c * B)* B+((i / B * c+x)* B+i % B) % B=i/\((i / B * c+x)* B+i % B) / B % c=x:=by
 have h2:i % B<B:=qbk _ hB;have e1:((i / B * c+x)* B+i % B) / B=i / B * c+x:=by rw[qce,qcx _ _ hB,qbX h2,qaR]
 have e2:((i / B * c+x)* B+i % B) % B=i % B:=by rw[qce,qbB,Nat.mod_mod]
 have e3:(i / B * c+x) / c=i / B:=by rw[qce,qcx _ _ (by omega),qbX hx,qaR]
 have e4:(i / B * c+x) % c=x:=by rw[qce,qbB,qa7 hx]
 refine⟨?_,by rw[e1,e4]⟩;rw[qaV c,<- qc9,e1,e3,e2,qaV];exact qb5 i B
structure Fil (A B c:Nat) (rows:List (List Nat)) (k:Nat) (w:List Nat):Prop where
 len:w.length=A * c * B
 at_:∀ j,j<A * c * B->(j / (c * B)* B+j % B)* c+j / B % c<k->w.getD j 0=zCU B c rows j
variable{rows:List (List Nat)}{w:List Nat}
theorem Fil.step(h:Fil A B c rows (i * c+x) w)(hB:0<B)(hi:i<A * B)(hx:x<c):
  Fil A B c rows (i * c+(x+1)) (w.set ((i / B * c+x)* B+i % B) ((rows.getD i []).getD x 0)):=by
 have hlt:=zD1 (A:=A) hi hx;refine⟨by rw[qaI]; exact h.len,λj hj hk=>?_⟩;by_cases e:(i / B * c+x)* B+i % B=j
 .subst e;obtain⟨k1,k2⟩:=zD9 (i:=i) hB hx;unfold zCU;rw[k1,k2,qal,qa0 (by rw[h.len]; exact hlt),qbG]
 rw[qal,qaK e,<- qal];refine h.at_ j hj ?_;rcases qaY ((j / (c * B)* B+j % B)* c+j / B % c) (i * c+x)with g | g
 .exact g
 exact absurd (zuo hB hx (by omega)).symm e
theorem Fil.next(h:Fil A B c rows (i * c+c) w):Fil A B c rows ((i+1)* c+0) w:=by
 rw[qbM,qaQ,qa6]; exact h
theorem Fil.start(A B c:Nat)(rows:List (List Nat)):Fil A B c rows (0 * c+0) (List.replicate (A * c * B) 0):=
 ⟨by simp,λj _ h=>absurd h (by omega)⟩
theorem Fil.all(h:Fil A B c rows (A * B * c+0) w)(hB:0<B)(hc:0<c):w=(List.range' 0 (A * c * B)).map (zCU B c rows):=by
 apply qcr
 .simp[h.len]
 intro j h1 h2;have hj:j<A * c * B:=by rw[<- h.len]; exact h1
 have hk:(j / (c * B)* B+j % B)* c+j / B % c<A * B * c+0:=by
  have g1:j / (c * B)<A:=qbL (by rw[qaV (c * B),<- qaZ]; exact hj);have g2:j % B<B:=qbk _ hB;have g3:j / B % c<c:=qbk _ hc;have g4:=qau B (show j / (c * B)+1<=A from g1);rw[qaQ,qa6]at g4;have g5:=qau c (show j / (c * B)* B+j % B+1<=A * B by omega);rw[qaQ,qa6]at g5;omega
 have:=h.at_ j hj hk;rw[qal,qac h1,qbG]at this;rw[this];simp
end Go.Dc
