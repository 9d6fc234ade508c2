/-
 What r05_Draft_Net computes. Conditions: none.
-/
import Derived.Test.YtbjogdohfhdaiaaGreatErJ5
import Derived.Test.YtbjogdohfhdaiaaGreatErJ6
import Derived.Test.YtbjogdohfhdaiaaGreatErJ4
set_option linter.unusedSimpArgs false
set_option linter.unusedVariables false
set_option maxRecDepth 100000
set_option maxHeartbeats 4000000
namespace Go.Dc
open Go Go.Mx Go.Lx Go.Proofs
def zbR(p0:S_haruspexref05_Draft)(r5:(List Int)):Nat->Int->Int->(List S_api_Node)->Option (List S_api_Node)
 | 0,_,_,_=>none
 | n+1,v6,v7,l2=>(
bif (decide (v7<(zmI (zly (p0.nodes.length:Int) 1) 5)))then(
((bif (decide (v7<(p0.nodes.length:Int)))then(
(zaE p0.nodes v7).bind λx9=>
some (x9.zaF,x9.parents,x9.w))
else(
some (0,0,[])):Option ((Int×Int×(List Int))))).bind λo=>match o with
|(b4_0,b4_1,b4_2)=>(
(zpp .i64 (w64 (v6 * (w64 (2+(w64 (b4_0.tmod 2)))))) (IntKind.u64.wrap (w64 ((w64 ((zmI (zly (p0.nodes.length:Int) 1) 5) - 1)) - v7)))).bind λq11=>
((bif (decide (100<q11))then(
some 2)
else(
some (w64 (2+(w64 (b4_0.tmod 2))))):Option Int)).bind λv9=>
(zaE r5 v7).bind λx14=>
(zaE l2 x14).bind λx16=>
(zeT l2 x14 (S_api_Node.mk v9 x16.parents x16.rows)).bind λy18=>
zbR p0 r5 n (w64 (v6 * v9)) (w64 (v7+1)) y18))
else(
some l2))
def zcb(N:Nat)(p0:S_haruspexref05_Draft)(r5:(List Int)):Nat->Int->(List S_api_Node)->Option (List S_api_Node)
 | 0,_,_=>none
 | n+1,v10,l2'=>(
bif (decide (v10<(zmI (zly (p0.nodes.length:Int) 1) 5)))then(
((bif (decide (v10<(p0.nodes.length:Int)))then(
(zaE p0.nodes v10).bind λx22=>
some (x22.zaF,x22.parents,x22.w))
else(
some (0,0,[])):Option ((Int×Int×(List Int))))).bind λo=>match o with
|(b4_0,b4_1,b4_2)=>(
(zaE r5 v10).bind λx24=>
(zqV r5 v10 x24 (zmI (zly (p0.nodes.length:Int) 1) 5) b4_1 l2').bind λy26=>
(zq7 N (w64 (1+(w64 (p0.grain.tmod 60)))) x24 b4_2 y26).bind λy28=>
zcb N p0 r5 n (w64 (v10+1)) y28))
else(
some l2'))
def zc4(N:Nat)(p0:S_haruspexref05_Draft):Option S_api_Net:=
(zd7 56 (zmI (zly (p0.nodes.length:Int) 1) 5) (S_api_Node.mk 0 [] [])).bind λy1=>
(zd7 1 (zmI (zly (p0.nodes.length:Int) 1) 5) 0).bind λy3=>
(zbC N (S_haruspexref02_Draft.mk y3 0 p0.order)).bind λr5=>
((zbR p0 r5 ((zmI (zly (p0.nodes.length:Int) 1) 5) - 0+2:Int).toNat 1 0 y1:Option (List S_api_Node))).bind λl2=>
((zcb N p0 r5 ((zmI (zly (p0.nodes.length:Int) 1) 5) - 0+2:Int).toNat 0 l2:Option (List S_api_Node))).bind λl2'=>
some (S_api_Net.mk (w64 (1+(w64 (p0.grain.tmod 60)))) l2')
theorem zjF{N:Nat}{p0:S_haruspexref05_Draft}{r:S_api_Net}(h:zc4 N p0=some r):Lx.Fn mC 13 [(.agg [(dU8 p0.grain),(fzE false za3 p0.nodes),(fzE false (eI .u8) p0.order)])] (.agg [(dI r.grain),(fzE true zab r.nodes)]):=by
 refine gnP (List.range 30) [30,31,32,33] ?_;unfold zc4 at h;refine zad ?_;obtain⟨y1,g2,y3,g4,r5,g6,h⟩:=zjp h;refine sXM (anM ((zar g2).1.1) (anM ((zar g2).1.2) (anM @qbI (anM (show List.replicate (Int.toNat (zmI (zly (p0.nodes.length:Int) 1) 5)) [(dI 0),zez,zez]=y1.map (zao.c true)from zfF g2 (zao.c true)) (anM ((zar g4).1.2) (mbM g4)))))) ?_;refine fCM (zfN g6) ?_;obtain⟨o7,j7,h⟩:=bsM h;refine usM [1,2,3,4,5] 4 (λa:(List S_api_Node)=>([],[(2,.els 3 (a.map (zao.c true)))],[])) λT7 hT7=>?_
 refine EvL.jn T7 (λa=>a=o7/\a.length=(Int.toNat (zmI (zly (p0.nodes.length:Int) 1) 5))) ?_ ?_
 .refine wSM ?_;refine usM [1,2,3,4,5] 4 (λa:(Int×Int×(List S_api_Node))=>([(6,(dI a.1)),(7,(dI a.2.1))],[(2,.els 3 (a.2.2.map (zao.c true)))],[])) λT12 hT12=>?_
  refine rdM hT12 (λn a=>zbR p0 r5 n a.1 a.2.1 a.2.2=some o7/\a.2.2.length=(Int.toNat (zmI (zly (p0.nodes.length:Int) 1) 5))) (1,0,y1) ⟨j7,zbh g2⟩ ?_;rintro n ⟨v6,v7,l2⟩ ⟨j7,el2⟩;simp only[zbR]at j7;refine wTM hT12 ?_;refine cBM j7 (λ_ j7=>?_) λ_ j7=>?_
  .obtain rfl:=qaf j7;exact zcz hT7 _ ⟨rfl,el2⟩
  obtain⟨o13,j13,j7⟩:=bsM j7;obtain⟨T13,hT13⟩:=zdp hT12 λa:(Int×Int×(List Int))=>uDM (T12 (v6,v7,l2)) [] [(8,(.ptr 4 0))] [] [.cells [(dU8 a.1),(dU8 a.2.1),(fzE false (eI .u8) a.2.2)]]
  refine EvL.jn T13 (λa=>a=o13) ?_ ?_
  .refine wSM ?_;refine cBM j13 (λ_ j13=>?_) λ_ j13=>?_
   .obtain rfl:=qaf j13;exact lfj hT13 rfl (wm0 [.k,.k,.k,.k,.k] ⟨MB.cs ⟨qds,qds,qds,qds⟩,⟨MB.cs ⟨qds,qds,qds⟩,⟨MB.es zao true l2,⟨MB.cs ⟨qds,rfl,qds⟩,⟨MB.zE3 (.cons (.same trivial) (.cons (.same trivial) (.cons (.fr (zjm (eI .u8))) .nil))),qds⟩⟩⟩⟩⟩)
   obtain⟨x9,g10,j13⟩:=bsM j13;refine sXM (anM @zdR (zaz (n:=3) (e:=za3) rfl g10)) ?_;exact zde j13 hT13
  rintro⟨b4_0,b4_1,b4_2⟩ rfl;dsimp only at j7;refine wTM hT13 ?_;obtain⟨q11,g12,j7⟩:=bsM j7;refine sXM (anM ((zbK g12).1) ((zbK g12).2)) ?_;obtain⟨o14,j14,j7⟩:=bsM j7;obtain⟨T14,hT14⟩:=zdp hT12 λa:Int=>uDM (T12 (v6,v7,l2)) [] [(9,(dI a))] [] []
  refine EvL.jn T14 _ (bJM j14 hT14) ?_;rintro v9 rfl;refine wTM hT14 ?_;obtain⟨x14,g15,x16,g17,y18,g19,j7⟩:=zjp j7;refine sXM (anM @zfx (anM (ixM g15) (anM el2 (anM (za2 g17) (anM (ltM el2 g17) (anM (zcn g17 (zao.c true)) (show(l2.map (zao.c true)).set x14.toNat [(dI v9),(nE true (eI .i64) x16.parents),(nE true (eL (eI .i64)) x16.rows)]=y18.map (zao.c true)from zd6 g19 (zao.c true)))))))) ?_;exact zcz hT12 ((w64 (v6 * v9)),(w64 (v7+1)),y18) ⟨j7,(zaS g19).trans el2⟩
 rintro l2 ⟨rfl,el2⟩;refine wTM hT7 ?_;obtain⟨o18,j18,h⟩:=bsM h;obtain⟨T18,hT18⟩:=zdp hT7 λa:(List S_api_Node)=>uKM (T7 l2) [2,4] [] [(0,.gone),(2,.els 3 (a.map (zao.c true)))] []
 refine EvL.jn T18 (λa=>a=o18/\a.length=(Int.toNat (zmI (zly (p0.nodes.length:Int) 1) 5))) ?_ ?_
 .refine wSM ?_;obtain⟨T21,hT21⟩:=zdp hT7 λa:(Int×(List S_api_Node))=>uDM (T7 l2) [] [(10,(dI a.1))] [(2,.els 3 (a.2.map (zao.c true)))] []
  refine rdM hT21 (λn a=>zcb N p0 r5 n a.1 a.2=some o18/\a.2.length=(Int.toNat (zmI (zly (p0.nodes.length:Int) 1) 5))) (0,l2) ⟨j18,el2⟩ ?_;rintro n ⟨v10,l2'⟩ ⟨j18,el2'⟩;simp only[zcb]at j18;refine wTM hT21 ?_;refine cBM j18 (λ_ j18=>?_) λ_ j18=>?_
  .obtain rfl:=qaf j18;exact zcz hT18 _ ⟨rfl,el2'⟩
  obtain⟨o22,j22,j18⟩:=bsM j18;obtain⟨T22,hT22⟩:=zdp hT21 λa:(Int×Int×(List Int))=>uDM (T21 (v10,l2')) [] [(11,(.ptr 4 0))] [] [.cells [(dU8 a.1),(dU8 a.2.1),(fzE false (eI .u8) a.2.2)]]
  refine EvL.jn T22 (λa=>a=o22) ?_ ?_
  .refine wSM ?_;refine cBM j22 (λ_ j22=>?_) λ_ j22=>?_
   .obtain rfl:=qaf j22;exact lfj hT22 rfl (wm0 [.k,.k,.k,.k,.k] ⟨MB.cs ⟨qds,qds,qds,qds⟩,⟨MB.cs ⟨qds,qds,qds⟩,⟨MB.es zao true l2',⟨MB.cs ⟨qds,rfl,qds⟩,⟨MB.zE3 (.cons (.same trivial) (.cons (.same trivial) (.cons (.fr (zjm (eI .u8))) .nil))),qds⟩⟩⟩⟩⟩)
   obtain⟨x22,g23,j22⟩:=bsM j22;refine sXM (anM @zdR (zaz (n:=3) (e:=za3) rfl g23)) ?_;exact zde j22 hT22
  rintro⟨b4_0,b4_1,b4_2⟩ rfl;dsimp only at j18;refine wTM hT22 ?_;obtain⟨x24,g25,j18⟩:=bsM j18;refine sXM (ixM g25) ?_;obtain⟨y26,g27,j18⟩:=bsM j18;refine wuM [1,2,3,4,5,10,11,12,13] 5 [] [] [] ?_;refine zFu g27 (λkp=>⟨qds,qds,qds,qds⟩) (λkp=>⟨qds,qds,qds⟩) (λkp=>trivial) (λkp=>trivial) el2' (zad ?_);refine sSM ?_;obtain⟨y28,g29,j18⟩:=bsM j18;refine wuM [1,2,3,4,5,10,11,12,15] 5 [] [] [] ?_;refine zER g29 (λkp=>⟨qds,qds,qds,qds⟩) (λkp=>⟨qds,qds,qds⟩) (λkp=>trivial) (λkp=>trivial) ((zlx g27).trans el2') (zad ?_);refine sSM ?_;exact zcz hT21 ((w64 (v10+1)),y28) ⟨j18,((zt1 g29).trans ((zlx g27).trans el2'))⟩
 rintro l2' ⟨rfl,el2'⟩;refine wTM hT18 ?_;obtain rfl:=qaf h;exact zjI.ret rfl (.zyP (.cons (.lit _) (.cons (zne (e:=zab) rfl (.inl rfl) (by rw[qak]; exact(el2').symm) (by rw[qak]; exact(el2').symm) (λk h=>by cases h; exact qap _) (zku (λ_=>rfl) l2')) .nil)))
end Go.Dc
namespace Go.Dc
open Go Go.Mx Go.Lx
structure NodeOk (num:List Nat) (g:Nat) (cs:List Nat) (j:Nat) (x:NN):Prop where
 par:ParOk num j cs.length x.ps
 rows:RowsOk g x.c (zac (x.ps.map λp=>cs.getD p 0)) x.rows
structure NetOk (num:List Nat) (g:Nat) (ns:List NN):Prop where
 g1:1<=g
 g2:g<=60
 n1:1<=ns.length
 n2:ns.length<=8
 zaF:∀ x∈ns,1<=x.c/\x.c<=4
 prod:zac (ns.map (·.c))<=1024
 perm:PermOk ns.length num
 node:∀(j v:Nat) (x:NN),num[j]? = some v->ns[v]? = some x->NodeOk num g (ns.map (·.c)) j x
structure PieceN where
 zaF:Nat
 parents:Nat
 w:List Nat
structure DraftN where
 grain:Nat
 nodes:List PieceN
 order:List Nat
def zrM(x:PieceN):S_haruspexref05_Piece:=⟨x.zaF,x.parents,iL x.w⟩
def zdL(d:DraftN):S_haruspexref05_Draft:=⟨d.grain,d.nodes.map zrM,iL d.order⟩
structure DraftOk (d:DraftN):Prop where
 grain:d.grain<=255
 zaF:∀ x∈d.nodes,x.zaF<=255
 order:∀ x∈d.order,x<=255
def zn8(d:DraftN):Nat:=min (max d.nodes.length 1) 5
theorem zq1(d:DraftN):zmI (zly ((zdL d).nodes.length:Int) 1) 5=((zn8 d:Nat):Int):=by
 grind [zn8,zdL]
def zpw(xs:List Nat):Nat:=xs.foldr (λx a=>max 1 x * a) 1
theorem zpN:∀ {xs:List Nat} {i c:Nat},xs[i]? = some 0->1<=c->zpw (xs.set i c)=zpw xs * c
 | [],i,c,h,hc=>by simp at h
 | x :: xs,0,c,h,hc=>by
  grind [zpw]
 | x :: xs,i+1,c,h,hc=>by
  have ih:=zpN (xs:=xs) (i:=i) (c:=c) (by simpa using h) hc
  grind [zpw]
theorem zrZ:∀ {xs:List Nat},(∀ x∈xs,1<=x)->zpw xs=zac xs
 | [],_=>rfl
 | x :: xs,h=>by
  have ih:=zrZ (xs:=xs) λy hy=>h y (qah _ hy)
  grind [zpw,zac]
variable{v:Nat}
theorem zJd{a:Nat}(h:a * 2 ^ v<9223372036854775808)(hv:v<64):zpp .i64 (a:Int) (v:Int)=some ((a * 2 ^ v:Nat):Int):=by
 unfold zpp;rw[if_pos (qbR v)];congr 1
 have h1:min (v:Int).toNat IntKind.i64.bits=v:=by
  rw[show IntKind.i64.bits=64 from rfl,qax]; exact qcm (by omega)
 rw[h1];have h2:(a:Int)* ((2:Int) ^ v)=((a * 2 ^ v:Nat):Int):=by simp
 rw[h2];exact zaC h
structure L1Ok (num:List Nat) (c j a:Nat) (ns:List NN):Prop where
 len:ns.length=c
 bare:∀ x∈ns,x.ps=[]/\x.rows=[]
 prod:zpw (ns.map (·.c))=a
 low:a * 2 ^ (c - j)<=100
 done:∀(k v:Nat),k<j->num[k]? = some v->∃ x,ns[v]? = some x/\2<=x.c/\x.c<=3
 left:∀(k v:Nat),j<=k->num[k]? = some v->∃ x,ns[v]? = some x/\x.c=0
theorem zpS{d:DraftN}(hd:DraftOk d){j:Nat}:∃(zaF parents:Nat) (w:List Nat),zaF<=255 /\
  ((bif (decide ((j:Int)<((zdL d).nodes.length:Int)))then(
(zaE (zdL d).nodes (j:Int)).bind λx9=>
some (x9.zaF,x9.parents,x9.w))
else(
some (0,0,[])):Option ((Int×Int×(List Int)))))=some ((zaF:Int),(parents:Int),iL w):=by
 have hl:(zdL d).nodes.length=d.nodes.length:=by simp[zdL]
 by_cases hj:j<d.nodes.length
 .refine⟨d.nodes[j].zaF,d.nodes[j].parents,d.nodes[j].w,hd.zaF _ (qao hj),?_⟩;rw[hl,zaT,qdv hj,qdt,zba (by rw[hl]; exact hj),qaa];simp[zdL,zrM]
 refine⟨0,0,[],by omega,?_⟩;rw[hl,zaT,qdw hj,qdu];rfl
theorem zz7{d:DraftN}(hd:DraftOk d){num:List Nat}{c:Nat}(hc:zn8 d=c)(hp:PermOk c num):∀(n j a:Nat) (ns:List NN),L1Ok num c j a ns->j<=c->c - j<n ->
  ∃(ns':List NN) (a':Nat),L1Ok num c c a' ns'/\zbR (zdL d) (iL num) n (a:Int) (j:Int) (ns.map nd)=some (ns'.map nd)
 | 0,_,_,_,_,_,h=>absurd h (qam _)
 | n+1,j,a,ns,h1,h2,h3=>by
  have hc5:c<=5:=by rw[<- hc]; exact qcL _ _
  unfold zbR;rw[zq1,hc];by_cases hj:j<c
  .rw[zaT,qdv hj,qdt];obtain⟨zaF,parents,w,hcard,e⟩:=zpS hd (j:=j);rw[e,qaa];simp only[];have hjn:j<num.length:=by rw[hp.len]; exact hj
   have hv:num[j]<ns.length:=by rw[h1.len]; exact hp.lt _ (qao hjn)
   obtain⟨x0,hx0,hx00⟩:=h1.left j num[j] (qap _) (qac hjn);have hx1:ns[num[j]]=x0:=by rw[qac hv]at hx0; exact qaf hx0
   have hbare:=h1.bare _ (qao hv);have hpow:1<=2 ^ (c - 1 - j):=Nat.one_le_two_pow;have hsplit:2 ^ (c - j)=2 * 2 ^ (c - 1 - j):=by rw[show c - j=(c - 1 - j)+1 by omega,qc5,qaS]
   have hlow:=h1.low;have hle:a * 2 ^ (c - 1 - j)<=100:=qaq (qco a (by omega)) hlow;have ha:a<=100:=qaq (qaI a hpow) hle;have step:∀ b:Nat,2<=b->b<=3->a * b * 2 ^ (c - 1 - j)<=100->∃(ns':List NN) (a':Nat),L1Ok num c c a' ns' /\
     ((zaE (iL num) (j:Int)).bind λx14=>(zaE (ns.map nd) x14).bind λx16=>(zeT (ns.map nd) x14 (S_api_Node.mk (b:Int) x16.parents x16.rows)).bind λy18=>
      zbR (zdL d) (iL num) n (w64 ((a:Int)* (b:Int))) (w64 ((j:Int)+1)) y18)=some (ns'.map nd):=by
    intro b hb1 hb2 hb3;have hab:a * b<=100:=qaq (qaI _ hpow) hb3
    obtain⟨ns',a',f1,f2⟩:=zz7 hd hc hp n (j+1) (a * b) (ns.set num[j] ⟨b,ns[num[j]].ps,ns[num[j]].rows⟩) {
     len:=by simpa using h1.len
     bare:=λy hy=>by
      rcases qbV hy with hy | hy
      .exact h1.bare y hy
      subst hy; exact hbare
     prod:=by
      rw[qcD,zpN (c:=b) (by rw[qa6,qac hv,hx1]; simp[hx00]) (by omega),h1.prod]
     low:=by rw[show c - (j+1)=c - 1 - j by omega]; exact hb3
     done:=λk v hk hkv=>by
      by_cases hkj:k=j
      .subst hkj;rw[qac hjn]at hkv;have:=qaf hkv;subst this;exact⟨_,qa1 hv,hb1,hb2⟩
      obtain⟨x,g1,g2⟩:=h1.done k v (by omega) hkv;refine⟨x,?_,g2⟩;rw[qaD,g1];intro hh;have hk':=(qab.1 hkv);have hkl:k<num.length:=hk'.1;exact qbk.1 hp.nod k j hkl hjn (by omega) (by rw[hk'.2]; exact hh.symm)
     left:=λk v hk hkv=>by
      obtain⟨x,g1,g2⟩:=h1.left k v (by omega) hkv;refine⟨x,?_,g2⟩;rw[qaD,g1];intro hh;have hk':=(qab.1 hkv);have hkl:k<num.length:=hk'.1
      exact qbk.1 hp.nod j k hjn hkl (by omega) (by rw[hk'.2]; exact hh) } hj (by omega)
    refine⟨ns',a',f1,?_⟩
    rw[za5 hjn,qaa,zcw hv,qaa,show S_api_Node.mk (b:Int) (nd ns[num[j]]).parents (nd ns[num[j]]).rows=nd ⟨b,ns[num[j]].ps,ns[num[j]].rows⟩from rfl,
     zhP hv,qaa,<- qaZ,zaC (by omega),zai (by omega),f2]
   have hw1:w64 (2+w64 ((zaF:Int).tmod 2))=((2+zaF % 2:Nat):Int):=by
    rw[show((zaF:Int).tmod 2)=((zaF % 2:Nat):Int)from rfl,zaC (by omega),show(2:Int)+((zaF % 2:Nat):Int)=((2+zaF % 2:Nat):Int) by omega,zaC (by omega)]
   have hac:a * (2+zaF % 2)<=100 * 3:=qbi ha (by omega);have hbig:a * (2+zaF % 2)* 2 ^ (c - 1 - j)<=300 * 2 ^ 4:=qbi hac (qbP (by decide) (by omega));have hcc:w64 (((c:Nat):Int) - 1)=((c - 1:Nat):Int):=by rw[show((c:Nat):Int) - 1=((c - 1:Nat):Int) by omega,zaC (by omega)]
   have hcj:w64 (((c - 1:Nat):Int) - (j:Int))=((c - 1 - j:Nat):Int):=by rw[show((c - 1:Nat):Int) - (j:Int)=((c - 1 - j:Nat):Int) by omega,zaC (by omega)]
   rw[hw1,hcc,hcj,zbY (by omega),<- qaZ,zaC (by omega),zJd (by omega) (by omega),qaa];by_cases hbg:100<a * (2+zaF % 2)* 2 ^ (c - 1 - j)
   .obtain⟨ns',a',f1,f2⟩:=step 2 (by omega) (by omega) (by rw[qa3,<- hsplit]; exact hlow)
    grind
   grind
  grind
structure L2Ok (num:List Nat) (g c:Nat) (cs:List Nat) (i:Nat) (ns:List NN):Prop where
 len:ns.length=c
 zaf:ns.map (·.c)=cs
 done:∀(k v:Nat) (x:NN),k<i->num[k]? = some v->ns[v]? = some x->NodeOk num g cs k x
 left:∀(k v:Nat) (x:NN),i<=k->num[k]? = some v->ns[v]? = some x->x.ps=[]/\x.rows=[]
theorem znd{m:Nat}(hm:1<=m):∀ {xs:List Nat},(∀ x∈xs,x<=m)->zac xs<=m ^ xs.length
 | [],_=>qap 1
 | x :: xs,h=>by
  have ih:=znd hm (xs:=xs) λy hy=>h y (qah _ hy)
  rw[qaB,qc5,qaS];exact qbi (h x qaj) ih
theorem zz2{xs:List Nat}(h:xs.Nodup){i j w:Nat}(hi:xs[i]? = some v)(hj:xs[j]? = some w)(hne:i≠j):v≠w:=by
 grind [qbk]
theorem zAT{d:DraftN}(hd:DraftOk d){num:List Nat}{c N:Nat}{cs:List Nat}(hc:zn8 d=c)(hp:PermOk c num)(hs:∀ x∈cs,1<=x/\x<=3)(hN:1025<=N):∀(n i:Nat) (ns:List NN),L2Ok num (1+d.grain % 60) c cs i ns->i<=c->c - i<n ->
  ∃ ns':List NN,L2Ok num (1+d.grain % 60) c cs c ns'/\zcb N (zdL d) (iL num) n (i:Int) (ns.map nd)=some (ns'.map nd)
 | 0,_,_,_,_,h=>absurd h (qam _)
 | n+1,i,ns,h1,h2,h3=>by
  have hc5:c<=5:=by rw[<- hc]; exact qcL _ _
  unfold zcb;rw[zq1,hc];by_cases hi:i<c
  .rw[zaT,qdv hi,qdt];obtain⟨zaF,parents,w,hcard,e⟩:=zpS hd (j:=i);rw[e,qaa];simp only[];have hin:i<num.length:=by rw[hp.len]; exact hi
   have hget:num[i]? = some num[i]:=qac hin;have hlen:=h1.len;have hcl:cs.length=c:=by rw[<- h1.zaf,qak,h1.len]
   have hv:num[i]<ns.length:=by rw[h1.len]; exact hp.lt _ (qao hin)
   obtain⟨b1,b2⟩:=h1.left i num[i] ns[num[i]] (qap _) hget (qac hv);obtain⟨qs,e2,hq⟩:=zCE (num:=num) (ps8:=(parents:Int)) (i:=i) (ns:=ns) (v:=num[i]) (by omega) (by rw[hp.len]; omega) (by omega) hp.nod hv b1;rw[h1.len]at e2 hq;have hg:w64 (1+w64 ((zdL d).grain.tmod 60))=((1+d.grain % 60:Nat):Int):=by
    grind [zdL,zaC]
   have hset:(ns.set num[i] ⟨ns[num[i]].c,qs,ns[num[i]].rows⟩)[num[i]]'(by simpa using hv)=⟨ns[num[i]].c,qs,ns[num[i]].rows⟩:=by simp
   have hcs1:(ns.set num[i] ⟨ns[num[i]].c,qs,ns[num[i]].rows⟩).map (·.c)=cs:=by rw[zkB (x:=⟨ns[num[i]].c,qs,ns[num[i]].rows⟩) hv rfl,h1.zaf]
   have hcv:1<=ns[num[i]].c/\ns[num[i]].c<=3:=hs _ (by rw[<- h1.zaf]; exact qaH.2 ⟨_,qao hv,rfl⟩);have hco:zeO (ns.set num[i] ⟨ns[num[i]].c,qs,ns[num[i]].rows⟩) qs=qs.map λp=>cs.getD p 0:=by unfold zeO; rw[hcs1]
   have hqs:∀ x∈(qs.map λp=>cs.getD p 0),1<=x/\x<=3:=by
    intro x hx;obtain⟨p,hpq,rfl⟩:=qaH.1 hx;have hpl:p<cs.length:=by rw[hcl]; exact hq.lt p hpq
    refine hs _ ?_;simp[hpl]
   have hprod:zac (qs.map λp=>cs.getD p 0)<=3 ^ 3:=by
    refine qaq (znd (m:=3) (by omega) λx hx=>(hqs x hx).2) ?_;rw[qak];exact qbP (by decide) hq.len
   obtain⟨rows,r1,r2⟩:=zCx (g:=1+d.grain % 60) (N:=N) (W:=w) (ns:=ns.set num[i] ⟨ns[num[i]].c,qs,ns[num[i]].rows⟩) (v:=num[i]) (by omega) (by simp; omega) (by simpa using hv)
    (by rw[hset]; intro p hpq; rw[qaw,h1.len]; exact hq.lt p hpq) (by rw[hset]; have:=hq.len; simp; omega) (by rw[hset]; exact hcv.1) (by rw[hset]; have:=hcv.2; simp; omega)
    (by rw[hset,hco]; exact λx hx=>(hqs x hx).1) (by rw[hset,hco]; exact qaq hprod (by decide)) (by rw[hset]; exact b2) hN
   simp only[hset,hco,qc4]at r1 r2
   obtain⟨ns',f1,f2⟩:=zAT hd hc hp hs hN n (i+1) (ns.set num[i] ⟨ns[num[i]].c,qs,rows⟩) {
    len:=by simpa using h1.len
    zaf:=by rw[zkB (x:=⟨ns[num[i]].c,qs,rows⟩) hv rfl,h1.zaf]
    done:=λk v x hk hkv hx=>by
     by_cases hki:k=i
     .subst hki;rw[hget]at hkv;have:=qaf hkv;subst this;rw[qa1 hv]at hx;have:=qaf hx;subst this;exact⟨by rw[hcl]; exact hq,r1⟩
     rw[qaD (zz2 hp.nod hget hkv (by omega))]at hx;exact h1.done k v x (by omega) hkv hx
    left:=λk v x hk hkv hx=>by
     rw[qaD (zz2 hp.nod hget hkv (by omega))]at hx
     exact h1.left k v x (by omega) hkv hx } hi (by omega)
   refine⟨ns',f1,?_⟩;rw[za5 hin,qaa,e2,qaa,hg,r2,qaa,zai (by omega),f2]
  grind
theorem zy3{d:DraftN}(hd:DraftOk d){N:Nat}(hN:1025<=N):
  ∃(num:List Nat) (ns:List NN),NetOk num (1+d.grain % 60) ns/\ns.length<=5/\zc4 N (zdL d)=some ⟨((1+d.grain % 60:Nat):Int),ns.map nd⟩:=by
 have hc5:zn8 d<=5:=qcL _ _;have hc1:1<=zn8 d:=by unfold zn8; omega
 obtain⟨num,hp,e1⟩:=zCe (c:=zn8 d) (N:=N) (os:=d.order) (wh:=0) hc5 (by omega) hd.order;have hpl:=hp.len;have h0:∀ v,v<zn8 d->(List.replicate (zn8 d) (⟨0,[],[]⟩:NN))[v]? = some ⟨0,[],[]⟩:=λv hv=>by simp[hv]
 obtain⟨ns1,a,h1,e2⟩:=zz7 hd rfl hp (zn8 d+2) 0 1 (List.replicate (zn8 d) ⟨0,[],[]⟩) {
  len:=by simp
  bare:=λx hx=>by rw[(qcv.1 hx).2]; exact⟨rfl,rfl⟩
  prod:=by
   rw[qcx];generalize zn8 d=c;induction c<;>grind [zpw]
  low:=by
   have:2 ^ (zn8 d - 0)<=2 ^ 5:=qbP (by decide) (by omega);omega
  done:=λk v hk hkv=>absurd hk (qam _)
  left:=λk v hk hkv=>⟨_,h0 v (hp.lt v (qaC hkv)),rfl⟩ } (qau _) (by omega)
 have hcards:∀ x∈ns1,2<=x.c/\x.c<=3:=by
  intro x hx;obtain⟨v,hv⟩:=qbO hx;have hvl:v<zn8 d:=by rw[<- h1.len]; exact(qab.1 hv).1
  obtain⟨k,hk⟩:=qbO (hp.all v hvl);obtain⟨y,g1,g2⟩:=h1.done k v (by rw[<- hpl]; exact(qab.1 hk).1) hk;rw[hv]at g1;have:=qaf g1;subst this;exact g2
 have hcs:∀ x∈ns1.map (·.c),1<=x/\x<=3:=by
  grind
 obtain⟨ns2,h2,e3⟩:=zAT hd rfl hp hcs hN (zn8 d+2) 0 ns1 ⟨h1.len,rfl,λk v x hk=>absurd hk (qam _),λk v x hk hkv hx=>h1.bare x (qaC hx)⟩ (qau _) (by omega);have hl2:=h2.len;have hlow:=h1.low;refine⟨num,ns2,⟨by omega,by omega,by omega,by omega,?_,?_,by rw[h2.len]; exact hp,?_⟩,by omega,?_⟩
 .grind [Go.Dc.L2Ok]
 .grind [zrZ,Go.Dc.L1Ok,Go.Dc.L2Ok]
 .grind [Go.Dc.L2Ok]
 have hg:w64 (1+w64 ((zdL d).grain.tmod 60))=((1+d.grain % 60:Nat):Int):=by
  grind [zdL,zaC]
 have hz:List.replicate (zn8 d) (S_api_Node.mk 0 [] [])=(List.replicate (zn8 d) (⟨0,[],[]⟩:NN)).map nd:=by rw[qcx]; rfl
 have e2':=e2;have e3':=e3;rw[show((0:Nat):Int)=0 from rfl]at e2' e3';rw[show((1:Nat):Int)=1 from rfl]at e2'
 grind [zc4,zq1,zdn,zdL]
def zeP(xs:List Nat):Nat:=xs.foldl (λm p=>m ||| 2 ^ p) 0
theorem zy1(xs:List Nat)(p:Nat):zeP (xs ++ [p])=zeP xs ||| 2 ^ p:=by simp[zeP]
theorem zpV:∀(xs:List Nat) (m i:Nat),(xs.foldl (λm p=>m ||| 2 ^ p) m).testBit i=(m.testBit i || decide (i∈xs))
 | [],m,i=>by simp
 | x :: xs,m,i=>by
  rw[qc7,zpV xs,qbw,qb8,Bool.or_assoc]
  grind
theorem zf6(xs:List Nat)(i:Nat):(zeP xs).testBit i=decide (i∈xs):=by
 unfold zeP; rw[zpV]; simp
theorem zsG:∀(xs:List Nat) (m:Nat),m<18446744073709551616->(∀ x∈xs,x<64)->xs.foldl (λm p=>m ||| 2 ^ p) m<18446744073709551616
 | [],m,h,_=>h
 | x :: xs,m,h,hx=>zsG xs _ (qbu (n:=64) h (qbj (by decide) (hx x qaj))) λy hy=>hx y (qah _ hy)
theorem zjj{xs:List Nat}(h:∀ x∈xs,x<64):zeP xs<18446744073709551616:=zsG xs 0 (by decide) h
def Sub(a b:Nat):Prop:=∀ i,a.testBit i=true->b.testBit i=true
theorem zvn{a b:Nat}(ha:a<18446744073709551616)(hb:b<18446744073709551616):diff a b=0↔Sub a b:=by
 constructor
 .intro h i hi;have:=ziL (i:=i) ha hb
  simp_all
 intro h;apply qcY<;>grind [ziL,Sub]
theorem zpf{cs ps:List Nat}{nodes:S_api_Net}{sets order:List Int}{x:S_api_Node}(hx:x.parents=iL ps)(hp:Pl cs.length ps)(hl:ps.length<=8)(hc:∀ p∈ps,1<=cs.getD p 0):∀(n i a:Nat),i<=ps.length ->
  a * zac ((ps.drop i).map λp=>cs.getD p 0)<=65536->ps.length - i<n ->
  zbw x ⟨nodes,iL cs,sets,order⟩ n (a:Int) (i:Int)=some ((a * zac ((ps.drop i).map λp=>cs.getD p 0):Nat):Int)
 | 0,_,_,_,_,h=>absurd h (qam _)
 | n+1,i,a,h1,h2,h3=>by
  unfold zbw;rw[hx,zal];by_cases hi:i<ps.length
  .have e2:a * zac ((ps.drop i).map λp=>cs.getD p 0)=a * cs.getD ps[i] 0 * zac ((ps.drop (i+1)).map λp=>cs.getD p 0):=by
    rw[qay hi]; exact(qa3 _ _ _).symm
   rw[e2]at h2;have hb:ps[i]<cs.length:=hp _ (qao hi);have hq:1<=zac ((ps.drop (i+1)).map λp=>cs.getD p 0):=zdV λx hx=>by
    obtain⟨p,hp1,rfl⟩:=qaH.1 hx;exact hc p (qcB hp1)
   have hle:a * cs.getD ps[i] 0<=65536:=qaq (qaI _ hq) h2;have he:cs[ps[i]]=cs.getD ps[i] 0:=by simp[hb]
   rw[zaT,qdv hi,qdt,za5 hi,qaa,za5 hb,qaa,he,<- qaZ,zaC (by omega),zai (by omega),
    zpf hx hp hl hc n (i+1) _ hi h2 (by omega),e2]
  grind [zac]
theorem zpn{y:Int×List Int}{zs:List Nat}(hy:y.2=iL zs)(hl:zs.length<=8):∀(n i r:Nat),i<=zs.length->(zs.drop i).sum<=r->r<=65536->zs.length - i<n ->
  zbu y n (r:Int) (i:Int)=some (.go ((r - (zs.drop i).sum:Nat):Int))
 | 0,_,_,_,_,_,h=>absurd h (qam _)
 | n+1,i,r,h1,h2,hr,h3=>by
  unfold zbu;rw[hy,zal];by_cases hi:i<zs.length
  .have e:(zs.drop i).sum=zs[i]+(zs.drop (i+1)).sum:=by rw[qay hi,qc8]
   rw[e]at h2
   rw[zaT,qdv hi,qdt,za5 hi,qaa,show decide (((zs[i]:Nat):Int)<0)=false from qdw (by omega),qdu,qaa,
    show decide ((r:Int)<((zs[i]:Nat):Int))=false from qdw (by omega),qdu,show((r:Int) - ((zs[i]:Nat):Int))=((r - zs[i]:Nat):Int) by omega,zaC (by omega),zai (by omega),
    zpn hy hl n (i+1) _ hi (by omega) (by omega) (by omega),e,Nat.sub_sub]
  grind
theorem zoG{g c:Nat}{nw:S_net_network}{x:S_api_Node}(hg:nw.net.grain=(g:Int))(hg2:g<=60)(hc:x.zaF=(c:Int))(hc8:c<=8):∀(L:List (Int×List Int)),(∀ y∈L,∃ zs:List Nat,y.2=iL zs/\zs.length=c/\zs.sum=g)->
  za6 nw x L=some (.go ())
 | [],_=>rfl
 | y :: L,h=>by
  obtain⟨zs,h1,h2,h3⟩:=h y qaj;unfold za6;have e:=zpn h1 (by omega) (zs.length+2) 0 g (qau _) (by rw[qbq]; omega) (by omega) (by omega);rw[qbq,h3,qce,show((0:Nat):Int)=0 from rfl]at e;rw[hg,h1,zal,zaK,e,qaa];simp only[];rw[hc,h2,show((c:Int)==(c:Int))=true by simp,qdt,qaa,show(!((0:Int)== 0))=false from rfl,qdu];exact zoG hg hg2 hc hc8 L λy hy=>h y (qah _ hy)
variable{g:Nat}
theorem zvL{cs:List Nat}{nodes:List S_api_Node}{sets order:List Int}{x:NN}(hg2:g<=60)(hp:Pl cs.length x.ps)(hl:x.ps.length<=8)(hc:∀ p∈x.ps,1<=cs.getD p 0)(hc8:x.c<=8)(hm:zac (x.ps.map λp=>cs.getD p 0)<=65536)(hr:RowsOk g x.c (zac (x.ps.map λp=>cs.getD p 0)) x.rows):zbV ⟨⟨(g:Int),nodes⟩,iL cs,sets,order⟩ (nd x)=some true:=by
 unfold zbV;have e:=zpf (x:=nd x) (nodes:=⟨(g:Int),nodes⟩) (sets:=sets) (order:=order) rfl hp hl hc (x.ps.length+2) 0 1 (qau _) (by simpa using hm) (by omega);rw[show((0:Nat):Int)=0 from rfl,show((1:Nat):Int)=1 from rfl,qbq,qa2]at e;have hrl:(nd x).rows.length=x.rows.length:=by simp[nd]
 rw[show(nd x).parents=iL x.ps from rfl,zal,zaK,e,qaa,hrl,hr.len,show(((zac (x.ps.map λp=>cs.getD p 0):Nat):Int)==((zac (x.ps.map λp=>cs.getD p 0):Nat):Int))=true by simp,qdt];unfold zfL;rw[qaa];have hs:zfm (nd x).rows=some ():=by
  unfold zfm;rw[if_pos (by rw[hrl,hr.len]; omega)]
 rw[hs,qaa,zoG (g:=g) (c:=x.c) rfl hg2 rfl hc8,qaa];intro y hy;unfold zuo at hy;obtain⟨q,hq,rfl⟩:=qaH.1 hy;have hq1:q.1∈(nd x).rows:=by
  have:=List.mem_zipIdx' hq;rw[this.2]; exact qao _
 obtain⟨zs,hz,hz2⟩:=qaH.1 hq1;exact⟨zs,hz2.symm,hr.row zs hz⟩
def zbx(g:Nat)(ns:List NN):S_api_Net:=⟨(g:Int),ns.map nd⟩
theorem zu2{g P:Nat}{ns:List NN}(hn:ns.length<=8)(hc:∀ x∈ns,1<=x.c/\x.c<=4)(hP:P<=65536):∀(n:Nat) (xs ys:List NN) (a:Nat),xs ++ ys=ns->a * zac (ys.map (·.c))=P->ys.length<n ->
  zdG (zbx g ns) n (a:Int) (xs.length:Int) (iL (xs.map (·.c)++ List.replicate ys.length 0))=some (.go ((P:Int),iL (ns.map (·.c))))
 | 0,_,_,_,_,_,h=>absurd h (qam _)
 | n+1,xs,[],a,h1,h2,h3=>by
  grind [zdG,zac,zbx]
 | n+1,xs,y :: ys,a,h1,h2,h3=>by
  unfold zdG;have hl:(zbx g ns).nodes.length=ns.length:=by simp[zbx]
  have hxn:xs.length<ns.length:=by rw[<- h1]; simp
  have hy:ns[xs.length]=y:=by subst h1; simp
  have hyc:=hc y (by rw[<- h1]; simp);have e2:a * y.c * zac (ys.map (·.c))=P:=by rw[<- h2]; exact qa3 _ _ _
  have hq:1<=zac (ys.map (·.c)):=zdV λc hcm=>by
   obtain⟨z,hz,rfl⟩:=qaH.1 hcm;exact(hc z (by rw[<- h1]; simp[hz])).1
  have hle:a * y.c<=P:=by rw[<- e2]; exact qaI _ hq
  have ih:=zu2 hn hc hP (g:=g) n (xs ++ [y]) ys (a * y.c) (by rw[<- h1]; simp) e2 (by simp at h3; omega)
  rw[hl,zaT,qdv hxn,qdt,show zaE (zbx g ns).nodes (xs.length:Int)=some (nd y) by rw[<- hy]; exact zcw hxn,qaa,
   show(nd y).zaF=(y.c:Int)from rfl,show decide ((y.c:Int)<1)=false from qdw (by omega),qdu,qaa,show decide ((4:Int)<(y.c:Int))=false from qdw (by omega),qdu]
  have hxl:((xs.length:Nat):Int)=(((xs.map (·.c)).length:Nat):Int):=by simp
  rw[qaB,qaX,hxl,zeV,qaa,zjL,qaa,<- qaZ,zaC (by omega),zai (by simp; omega),<- ih];simp
theorem zuw{g v:Nat}{ns:List NN}{x:S_api_Node}{ps xs ys:List Nat}(hx:x.parents=iL ps)(hn:ns.length<=8)(hv:xs.length=v)(hp:∀ p∈ps,p<ns.length/\p≠v)(hinc:ps.Pairwise (· < ·)):∀(n i:Nat) (m:Nat) (lo:Int),i<=ps.length->m<18446744073709551616 ->
  (∀ p∈ps.drop i,lo<(p:Int))->ps.length - i<n ->
  zei x (zbx g ns) (v:Int) n lo (i:Int) (iL (xs ++ m :: ys))=some (.go (iL (xs ++ ((ps.drop i).foldl (λm p=>m ||| 2 ^ p) m):: ys)))
 | 0,_,_,_,_,_,_,h=>absurd h (qam _)
 | n+1,i,m,lo,h1,h2,h4,h3=>by
  have hps:ps.length<=9223372036854775806\/True:=.inr trivial;unfold zei;have hl:(zbx g ns).nodes.length=ns.length:=by simp[zbx]
  rw[hx,zal,hl];by_cases hi:i<ps.length
  .have hd:ps.drop i=ps[i]:: ps.drop (i+1):=qay hi;obtain⟨hp1,hp2⟩:=hp _ (qao hi);have hlo:=h4 ps[i] (by rw[hd]; exact qaj);have hsm:i<=ps[i]:=by
    have:∀(j:Nat) (hj:j<ps.length),j<=ps[j]:=by
     intro j;induction j with
     | zero=>intro hj; exact qau _
     | succ j ih=>
      intro hj;have h6:=ih (by omega);have h7:=qbk.1 hinc j (j+1) (by omega) hj (by omega);omega
    exact this i hi
   have hgt:∀ p∈ps.drop (i+1),((ps[i]:Nat):Int)<(p:Int):=by
    intro p hp;obtain⟨k,hk,rfl⟩:=qcX.1 hp;rw[List.getElem_drop];have:=qbk.1 hinc i (i+1+k) hi (by simp at hk; omega) (by omega);omega
   have hpw:2 ^ ps[i]<18446744073709551616:=qbj (n:=64) (by decide) (by omega);have hm:m ||| 2 ^ ps[i]<18446744073709551616:=qbu (n:=64) h2 hpw;have ih:=zuw (g:=g) (ys:=ys) hx hn hv hp hinc n (i+1) (m ||| 2 ^ ps[i]) (ps[i]:Int) hi hm hgt (by omega)
   rw[zaT,qdv hi,qdt,za5 hi,qaa,show decide (((ps[i]:Nat):Int)<=lo)=false from qdw (by omega),qdu,
    show decide (((ns.length:Nat):Int)<=((ps[i]:Nat):Int))=false from qdw (by omega),qdu,qaa,show(((ps[i]:Nat):Int)==(v:Int))=false by simp; omega,qdu,
    <- hv,zeV,qaa,zx5 (by omega),qaa,orU h2 hpw,zjL,qaa,zai (by omega),hv,ih,hd,qc7]
  grind
structure RightN (g:Nat) (ns:List NN):Prop where
 g1:1<=g
 g2:g<=60
 n1:1<=ns.length
 n2:ns.length<=8
 zaF:∀ x∈ns,1<=x.c/\x.c<=4
 prod:zac (ns.map (·.c))<=1024
 inc:∀ x∈ns,x.ps.Pairwise (· < ·)
 lt:∀ x∈ns,∀ p∈x.ps,p<ns.length
 rows:∀ x∈ns,RowsOk g x.c (zac (x.ps.map λp=>(ns.map (·.c)).getD p 0)) x.rows
 rk:∃ rk:Nat->Nat,(∀ v,rk v<=8)/\∀ v x,ns[v]? = some x->∀ p∈x.ps,rk p<rk v
theorem zn2{n:Nat}{ps:List Nat}(h:ps.Pairwise (· < ·))(hp:∀ p∈ps,p<n):ps.length<=n:=by
 have:∀(j:Nat) (hj:j<ps.length),j<=ps[j]:=by
  intro j;induction j<;>grind [qbk]
 grind [qao]
variable{ns:List NN}
theorem RightN.zEV(h:RightN g ns){x:NN}(hx:x∈ns):x.ps.length<=8:=by
 have:=zn2 (h.inc x hx) (h.lt x hx);have:=h.n2;omega
theorem RightN.ne(h:RightN g ns){x:NN}(hx:ns[v]? = some x):∀ p∈x.ps,p≠v:=by
 grind [RightN]
theorem RightN.zEk(h:RightN g ns){x:NN}(hx:x∈ns):∀ p∈x.ps,1<=(ns.map (·.c)).getD p 0/\(ns.map (·.c)).getD p 0<=4:=by
 grind [RightN]
theorem RightN.zDK(h:RightN g ns){x:NN}(hx:x∈ns):zac (x.ps.map λp=>(ns.map (·.c)).getD p 0)<=65536:=by
 refine qaq (znd (m:=4) (by omega) λy hy=>?_) ?_
 .grind [RightN]
 rw[qak];exact qaq (qbP (by decide) (h.zEV hx)) (by decide)
theorem zuR{g:Nat}{ns:List NN}(h:RightN g ns):∀(n:Nat) (xs ys:List NN),xs ++ ys=ns->ys.length<n ->
  zdH (zbx g ns) (iL (ns.map (·.c))) n (xs.length:Int) (iL (xs.map (λx=>zeP x.ps)++ List.replicate ys.length 0))=some (.go (iL (ns.map λx=>zeP x.ps)))
 | 0,_,_,_,h=>absurd h (qam _)
 | n+1,xs,[],h1,h3=>by
  grind [zdH,zbx]
 | n+1,xs,y :: ys,h1,h3=>by
  unfold zdH;have hl:(zbx g ns).nodes.length=ns.length:=by simp[zbx]
  have hxn:xs.length<ns.length:=by rw[<- h1]; simp
  have hn:=h.n2;have hy:ns[xs.length]=y:=by subst h1; simp
  have hyg:ns[xs.length]? = some y:=by rw[qac hxn,hy]
  have hym:y∈ns:=qaC hyg;have hcl:(ns.map (·.c)).length=ns.length:=by simp
  have hlt:∀ p∈y.ps,p<ns.length/\p≠xs.length:=λp hp=>⟨h.lt y hym p hp,h.ne hyg p hp⟩
  have hcs:=h.zEk hym;have hpl:=h.zEV hym;have hprod:=h.zDK hym;have hyc:=h.zaF y (by rw[<- h1]; simp);have ih:=zuR h n (xs ++ [y]) ys (by rw[<- h1]; simp) (by simp at h3; omega);have e3:=zuw (g:=g) (ns:=ns) (x:=nd y) (xs:=xs.map λx=>zeP x.ps) (ys:=List.replicate ys.length 0) (v:=xs.length) rfl hn (by simp) hlt (h.inc y hym) (y.ps.length+2) 0 0 (-1) (qau _) (by decide) (λp hp=>by omega) (by omega);rw[show((0:Nat):Int)=0 from rfl,qbq]at e3;have e4:=zvL (g:=g) (cs:=ns.map (·.c)) (nodes:=ns.map nd) (sets:=iL (xs.map (λx=>zeP x.ps)++ zeP y.ps :: List.replicate ys.length 0)) (order:=[]) (x:=y) h.g2 (by rw[hcl]; exact λp hp=>(hlt p hp).1) (by omega) (λp hp=>(hcs p hp).1) (by omega) hprod (h.rows y hym)
  rw[hl,zaT,qdv hxn,qdt,show zaE (zbx g ns).nodes (xs.length:Int)=some (nd y) by rw[<- hy]; exact zcw hxn,qaa,qaB,qaX,
   show(nd y).parents.length=y.ps.length by simp[nd,zal],zaK,e3,qaa]
  simp only[];rw[show(y.ps.foldl (λm p=>m ||| 2 ^ p) 0)=zeP y.ps from rfl];rw[show zbx g ns=⟨(g:Int),ns.map nd⟩from rfl]at ih ⊢;rw[e4,qaa,qdt,zai (by omega),<- ih];simp
def zo7(ms:List Nat)(mask v:Nat):Prop:=mask.testBit v=false/\Sub (ms.getD v 0) mask
structure First (ms:List Nat) (mask v:Nat):Prop where
 lt:v<ms.length
 ready:zo7 ms mask v
 least:∀ u,u<v->¬ zo7 ms mask u
def zga(ms os:List Nat):Prop:=∀ k v,os[k]? = some v->First ms (zeP (os.take k)) v
variable{os:List Nat}
theorem zga.app{ms:List Nat}(h:zga ms os)(hv:First ms (zeP os) v):zga ms (os ++ [v]):=by
 grind [zga]
theorem zga.nod{ms:List Nat}(h:zga ms os):os.Nodup:=by
 rw[List.Nodup,qbk];intro i j hi hj hij he;have h1:=(h j os[j] (qac hj)).ready.1
 grind [zf6,List.mem_take_iff_getElem]
theorem zga.lt{ms os:List Nat}(h:zga ms os):∀ x∈os,x<ms.length:=by
 intro x hx;obtain⟨k,hk⟩:=qbO hx;exact(h k x hk).lt
theorem zv6:∀ {xs ys:List Nat},xs.Nodup->(∀ x∈xs,x∈ys)->xs.length<=ys.length
 | [],_,_,_=>qau _
 | x :: xs,ys,h,hs=>by
  obtain⟨h1,h2⟩:=qaR.1 h;have hx:=hs x qaj;have ih:=zv6 (xs:=xs) (ys:=ys.erase x) h2 λy hy=>(List.mem_erase_of_ne (λq:y=x=>h1 (by rw[<- q]; exact hy))).2 (hs y (qah _ hy))
  grind
theorem zzK{ms:List Nat}{mask:Nat}:∀ v,v<ms.length->zo7 ms mask v->∃ u,First ms mask u:=by
 intro v;induction v using Nat.strongRecOn with
 | ind v ih=>
  intro hv hr;by_cases h:∃ u,u<v/\zo7 ms mask u
  .grind
  exact⟨v,hv,hr,λu hu hur=>h ⟨u,hu,hur⟩⟩
def zan(ns:List NN):List Nat:=ns.map λx=>zeP x.ps
theorem RightN.zjj{g:Nat}{ns:List NN}(h:RightN g ns):∀ m∈zan ns,m<18446744073709551616:=by
 grind [Go.Dc.zjj,zan,Go.Dc.RightN]
theorem RightN.ready(h:RightN g ns)(os:List Nat){rk:Nat->Nat}(hrk:∀ v x,ns[v]? = some x->∀ p∈x.ps,rk p<rk v):∀(j v:Nat),rk v=j->v<ns.length->v ∉ os->∃ u,u<ns.length/\zo7 (zan ns) (zeP os) u:=by
 intro j;induction j using Nat.strongRecOn with
 | ind j ih=>
  intro v hj hvl hv;by_cases hp:∃ p,p∈ns[v].ps/\p ∉ os
  .grind [Go.Dc.RightN]
  refine⟨v,hvl,by rw[zf6]; simp[hv],λi hi=>?_⟩<;> grind [zf6,zan]
theorem RightN.next(h:RightN g ns)(hl:os.length<ns.length):∃ v,First (zan ns) (zeP os) v:=by
 obtain⟨rk,_,hrk⟩:=h.rk;by_cases hs:∀ x∈List.range ns.length,x∈os
 .have:=zv6 qcg hs
  grind
 have:∃ x,x∈List.range ns.length/\x ∉ os:=qbD λhno=>hs λx hx=>qbD λhx2=>hno ⟨x,hx,hx2⟩
 obtain⟨x,hx,hxo⟩:=this;obtain⟨u,hu,hr⟩:=h.ready os hrk _ x rfl (qaW.1 hx) hxo;exact zzK u (by simpa [zan]using hu) hr
theorem zwB{ms:List Nat}{mask i:Nat}{β:Type}(hm:∀ m∈ms,m<18446744073709551616)(hk:mask<18446744073709551616)(hi:i<ms.length)(h64:i<64)(l:β):
  ∃ b:Bool,(b=true↔zo7 ms mask i)/\((ziN .u64 (mask:Int) (i:Int)).bind λq7=>bif ((ziv .u64 q7 1)== 0)then some (((zBd .u64 ((ms[i]:Nat):Int) (mask:Int))== 0),l)else some (false,l))=some (b,l)/\
   ((ziN .u64 (mask:Int) (i:Int)).bind λq7=>bif ((ziv .u64 q7 1)== 0)then some ((zBd .u64 ((ms[i]:Nat):Int) (mask:Int))== 0)else some false)=some b:=by
 obtain⟨q,h1,h2⟩:=zyN (a:=mask) (v:=i) hk h64;have hmi:=hm _ (qao hi);have hg:ms.getD i 0=ms[i]:=by simp[hi]
 simp only[h1,qaa,h2,zGl];cases hb:mask.testBit i with
 | true=>simp_all [zo7]
 | false=>
  refine⟨(((diff ms[i] mask:Nat):Int)== 0),?_,rfl,rfl⟩<;> grind [zo7,zvn]
theorem zpu{ms os:List Nat}{mask C v:Nat}(hn:ms.length<=8)(hm:∀ m∈ms,m<18446744073709551616)(hk:mask<18446744073709551616)(hC:os.length+1<=C)(hv:First ms mask v):∀(n i:Nat),i<=v->v - i<n ->
  zdk (iL ms) (mask:Int) C n (i:Int) (iL os)=some (.brk (((mask ||| 2 ^ v:Nat):Int),iL (os ++ [v])))
 | 0,_,_,h=>absurd h (qam _)
 | n+1,i,h1,h3=>by
  unfold zdk;have hvl:=hv.lt;have hi:i<ms.length:=by omega
  obtain⟨b,hb,e,_⟩:=zwB hm hk hi (by omega) (iL os);rw[zal,zaT,qdv hi,qdt,za5 hi,qaa,e,qaa];simp only[];by_cases hiv:i=v
  .subst hiv;have hpw:2 ^ i<18446744073709551616:=qbj (n:=64) (by decide) (by omega);rw[hb.2 hv.ready,qdt];unfold zqU;rw[if_pos (by simp[zal]; omega),qaa,zx5 (by omega),qaa,orU hk hpw];simp[iL]
  have:b=false:=by
   grind [First]
  rw[this,qdu,zai (by omega),zpu hn hm hk hC hv n (i+1) (by omega) (by omega)]
theorem zpE{g:Nat}{ns:List NN}(h:RightN g ns):∀(n:Nat) (os:List Nat),zga (zan ns) os->os.length<=ns.length->ns.length - os.length<n ->
  ∃ os',zga (zan ns) os'/\os'.length=ns.length/\zdi (iL (zan ns)) ns.length n ((zeP os:Nat):Int) (iL os)=some (.go (iL os'))
 | 0,_,_,_,h=>absurd h (qam _)
 | n+1,os,h1,h2,h3=>by
  unfold zdi;have hml:(zan ns).length=ns.length:=by simp[zan]
  have hn:=h.n2;rw[zal,zal,hml,zaT];by_cases hl:os.length<ns.length
  .obtain⟨v,hv⟩:=h.next hl;have hvl:=hv.lt;have hk:zeP os<18446744073709551616:=Go.Dc.zjj λx hx=>by
    have:=h1.lt x hx;omega
   have e:=zpu (os:=os) (C:=ns.length) (by omega) h.zjj hk (by omega) hv (ns.length+2) 0 (qau _) (by omega);rw[show((0:Nat):Int)=0 from rfl]at e;obtain⟨os',g1,g2,g3⟩:=zpE h n (os ++ [v]) (h1.app hv) (by simp; omega) (by simp; omega)
   grind [zy1]
  grind
theorem zwl(h:RightN g ns):
  ∃ os,zga (zan ns) os/\os.length=ns.length/\zeA (iL (zan ns))=some (iL os,true):=by
 have hml:(zan ns).length=ns.length:=by simp[zan]
 have hn:=h.n2;obtain⟨os,g1,g2,g3⟩:=zpE h (ns.length+2) [] (λk v hk=>by simp at hk) (qau _) (by simp);refine⟨os,g1,g2,?_⟩;unfold zeA;rw[zal,hml];have hcap:zDy 8 ((ns.length:Nat):Int)=some ns.length:=by
  grind [zDy,zah]
 rw[hcap,qaa,show(((ns.length:Nat):Int) - ((([]:List Int).length:Nat):Int)+2).toNat=ns.length+2 by simp; omega]
 grind [zeP,iL]
theorem zqS(h:RightN g ns):
  ∃ os,zga (zan ns) os/\os.length=ns.length/\ze1 (zbx g ns)=some (⟨zbx g ns,iL (ns.map (·.c)),iL (zan ns),iL os⟩,0):=by
 obtain⟨os,g1,g2,g3⟩:=zwl h;refine⟨os,g1,g2,?_⟩;have h1:=h.g1;have h2:=h.g2;have h3:=h.n1;have h4:=h.n2;have hl:(zbx g ns).nodes.length=ns.length:=by simp[zbx]
 have hp:=h.prod;have e1:=zu2 (g:=g) (P:=zac (ns.map (·.c))) h.n2 h.zaF (by omega) (ns.length+2) [] ns 1 rfl (qa2 _) (by omega);have e2:=zuR h (ns.length+2) [] ns rfl (by omega);simp only[qdq,qaU,qa8]at e1 e2;rw[show((0:Nat):Int)=0 from rfl]at e1 e2;rw[show((1:Nat):Int)=1 from rfl]at e1;have hz:List.replicate ns.length (0:Int)=iL (List.replicate ns.length 0):=by simp[iL]
 grind [ze1,zbx,zdn,zan]
end Go.Dc
namespace Go.Dc
open Go Go.Mx Go.Lx Go.Proofs
end Go.Dc
namespace Go.Dc
open Go Go.Mx Go.Lx
inductive Reach (ms:List Nat):Nat->Nat->Prop
 | refl (i:Nat):Reach ms i i
 | step {s p i:Nat}:(ms.getD s 0).testBit p=true->Reach ms p i->Reach ms s i
variable{c s:Nat}
theorem zy4{ms:List Nat}{i:Nat}(h:Reach ms s i)(hs:c.testBit s=true)(hc:∀ i,c.testBit i=true->Sub (ms.getD i 0) c):c.testBit i=true:=by
 induction h with
 | refl i=>exact hs
 | step h1 h2 ih=>exact ih (hc _ hs _ h1)
variable{xs:List Nat}{i:Nat}
theorem zrI{j y:Nat}(h:i<xs.length):(xs.set i y).getD j 0=if i=j then y else xs.getD j 0:=by
 simp only[qag,List.getElem?_set];split
 .rename_i hij;subst hij;simp[h]
 rfl
theorem zi8{xs:List Nat}(h:∀ m∈xs,m<18446744073709551616)(i:Nat):xs.getD i 0<18446744073709551616:=by
 by_cases hi:i<xs.length
 .rw[show xs.getD i 0=xs[i] by simp[hi]]; exact h _ (qao hi)
 rw[show xs.getD i 0=0 by simp[hi]]; decide
theorem zo6(h:i<xs.length):zaE (iL xs) (i:Int)=some ((xs.getD i 0:Nat):Int):=by
 rw[za5 h]; simp[h]
variable{a b:Nat}
theorem Reach.tr{ms:List Nat}(h1:Reach ms a b)(h2:Reach ms b c):Reach ms a c:=by
 induction h1 with
 | refl=>exact h2
 | step e _ ih=>exact .step e (ih h2)
variable{n:Nat}
theorem zq5{os:List Nat}(hd:os.Nodup)(hl:os.length=n)(hlt:∀ x∈os,x<n):∀ v,v<n->v∈os:=by
 intro v hv;refine qbD λhno=>?_
 have:=zv6 (xs:=v :: os) (ys:=List.range n) (qaR.2 ⟨hno,hd⟩) λy hy=>by
  grind
 grind
def iter(f:Nat->Nat)(v:Nat):Nat->Nat
 | 0=>v
 | k+1=>f (iter f v k)
def cnt(n s:Nat):Nat:=(List.range n).countP (s.testBit ·)
theorem zAq(n s:Nat):cnt n s<=n:=by
 grind [qcQ,cnt]
theorem zom{p q:Nat->Bool}:∀ {xs:List Nat},(∀ x∈xs,p x=true->q x=true)->(∃ x∈xs,p x=false/\q x=true)->xs.countP p<xs.countP q
 | [],_,h=>by obtain⟨x,hx,_⟩:=h; cases hx
 | y :: ys,h1,h2=>by
  have hle:ys.countP p<=ys.countP q:=List.countP_mono_left λx hx=>h1 x (qah _ hx)
  rw[List.countP_cons,List.countP_cons];obtain⟨x,hx,h3,h4⟩:=h2;rcases qav.1 hx with rfl | hx
  .grind
  have ih:=zom (xs:=ys) (λx hx=>h1 x (qah _ hx)) ⟨x,hx,h3,h4⟩
  grind
theorem zsr{t:Nat}(h1:Sub s t)(h2:∃ x,x<n/\s.testBit x=false/\t.testBit x=true):cnt n s<cnt n t:=by
 obtain⟨x,h3,h4,h5⟩:=h2;exact zom (λx _ hx=>h1 x hx) ⟨x,qaW.2 h3,h4,h5⟩
theorem zDh(h:n<=cnt n s):∀ x,x<n->s.testBit x=true:=by
 grind [cnt,List.countP_eq_length]
theorem zjA{n:Nat}(F:Nat->Nat)(h1:∀ s,Sub s (F s))(h2:∀ s,(∀ x,s.testBit x=true->x<n)->∀ x,(F s).testBit x=true->x<n):∀(k s:Nat),(∀ x,s.testBit x=true->x<n)->
  F (iter F s k)=iter F s k\/k<=cnt n (iter F s k)
 | 0,s,_=>.inr (qau _)
 | k+1,s,h=>by
  have hin:∀ j,∀ x,(iter F s j).testBit x=true->x<n:=by
   intro j;induction j<;>grind [iter]
  rcases zjA F h1 h2 k s h with h3 | h3
  .grind [iter]
  by_cases he:F (iter F s k)=iter F s k
  .grind [iter]
  refine .inr (qbT h3 (zsr (h1 _) ?_));refine qbD λhno=>he ?_
  apply qcY;intro i;cases hi:(iter F s k).testBit i with
  | true=>exact h1 _ i hi
  | false=>
   cases hf:(F (iter F s k)).testBit i with
   | false=>rfl
   | true=>exact absurd ⟨i,hin (k+1) i hf,hi,hf⟩ hno
def zC3(m:Int):Int->List Int->Prop
 | _,[]=>True
 | lo,p :: r=>lo<p/\p<m/\zC3 m p r
theorem zC3.of{m:Nat}:∀ {qs:List Nat} {lo:Int},qs.Pairwise (· < ·)->(∀ q∈qs,lo<(q:Int))->(∀ q∈qs,q<m)->zC3 m lo (iL qs)
 | [],lo,_,_,_=>trivial
 | q :: r,lo,h,h1,h2=>by
  obtain⟨h3,h4⟩:=qa4.1 h;show lo<(q:Int)/\(q:Int)<(m:Int)/\zC3 m (q:Int) (iL r);refine⟨h1 q qaj,by have:=h2 q qaj; omega,zC3.of h4 (λp hp=>by have:=h3 p hp; omega) λp hp=>h2 p (qah _ hp)⟩
structure BndX (k:Nat) (x:S_api_Node):Prop where
 par:x.parents.length<=k
 rows:x.rows.length<=k
 row:∀ r∈x.rows,r.length<=k
structure BndK (k:Nat) (d:S_api_Net):Prop where
 nodes:d.nodes.length<=k
 node:∀ x∈d.nodes,BndX k x
theorem BndX.mono{k m:Nat}{x:S_api_Node}(h:BndX k x)(hk:k<=m):BndX m x:=⟨qaq h.par hk,qaq h.rows hk,λr hr=>qaq (h.row r hr) hk⟩
theorem BndK.mono{k m:Nat}{d:S_api_Net}(h:BndK k d)(hk:k<=m):BndK m d:=⟨qaq h.nodes hk,λx hx=>(h.node x hx).mono hk⟩
def upS(ms:List Nat)(s v:Nat):Nat:=if s.testBit v then s ||| ms.getD v 0 else s
def upR(ms:List Nat)(s:Nat):Nat:=(List.range ms.length).foldl (upS ms) s
def EOk(ms:List Nat):Prop:=∀ v p,(ms.getD v 0).testBit p=true->v<ms.length/\p<ms.length
theorem Sub.zGb:Sub a a:=λ_ h=>h
theorem Sub.tr(h1:Sub a b)(h2:Sub b c):Sub a c:=λi h=>h2 i (h1 i h)
theorem Sub.zGA(h1:Sub a b)(h2:Sub b a):a=b:=by
 apply qcY;intro i;exact qcp.2 ⟨h1 i,h2 i⟩
theorem zwP(ms:List Nat)(s v:Nat):Sub s (upS ms s v):=by
 intro i hi;unfold upS;split
 .rw[qbw,hi,Bool.true_or]
 exact hi
theorem zmK{f:Nat->Nat->Nat}(h:∀ s v,Sub s (f s v)):∀(vs:List Nat) (s:Nat),Sub s (vs.foldl f s)
 | [],s=>Sub.zGb
 | v :: vs,s=>(h s v).tr (zmK h vs (f s v))
theorem zrG{f:Nat->Nat->Nat}(h:∀ s v,Sub s (f s v)):∀(vs:List Nat) (s:Nat),vs.foldl f s=s->∀ v∈vs,f s v=s
 | [],_,_,_,hv=>nomatch hv
 | v :: vs,s,he,u,hu=>by
  rw[qc7]at he;have h1:f s v=s:=Sub.zGA (by have:=zmK h vs (f s v); rw[he]at this; exact this) (h s v);rw[h1]at he;rcases qav.1 hu with rfl | hu
  .exact h1
  exact zrG h vs s he u hu
theorem znx{f:Nat->Nat->Nat}{P:Nat->Prop}(h:∀ s v,P s->P (f s v)):∀(vs:List Nat) (s:Nat),P s->P (vs.foldl f s)
 | [],_,h0=>h0
 | v :: vs,s,h0=>znx h vs _ (h s v h0)
theorem zn7{f:Nat->Nat}{P:Nat->Prop}(h:∀ s,P s->P (f s))(s:Nat)(h0:P s):∀ k,P (iter f s k)
 | 0=>h0
 | k+1=>h _ (zn7 h s h0 k)
theorem zs6{f:Nat->Nat}(h:∀ s,Sub s (f s))(s:Nat):∀ k,Sub s (iter f s k)
 | 0=>Sub.zGb
 | k+1=>(zs6 h s k).tr (h _)
theorem zFb{ms:List Nat}(he:EOk ms)(hs:∀ x,s.testBit x=true->x<ms.length)(i:Nat):(iter (upR ms) s ms.length).testBit i=true↔∃ v,s.testBit v=true/\Reach ms v i:=by
 have hsub:∀ s,Sub s (upR ms s):=λs=>zmK (zwP ms) _ s
 have hin:∀ s,(∀ x,s.testBit x=true->x<ms.length)->∀ x,(upR ms s).testBit x=true->x<ms.length:=λs h=>znx (P:=λs=>∀ x,s.testBit x=true->x<ms.length) (λs v h x hx=>by
  unfold upS at hx;split at hx
  .rw[qbw]at hx;rcases qcJ.1 hx with hx | hx
   .exact h x hx
   exact(he v x hx).2
  exact h x hx) _ s h
 have hfix:upR ms (iter (upR ms) s ms.length)=iter (upR ms) s ms.length:=by
  rcases zjA (n:=ms.length) (upR ms) hsub hin ms.length s hs with h | h
  .exact h
  refine Sub.zGA (λx hx=>?_) (hsub _);exact zDh h x (hin _ (zn7 (P:=λs=>∀ x,s.testBit x=true->x<ms.length) hin s hs _) x hx)
 have hclo:∀ v,(iter (upR ms) s ms.length).testBit v=true->Sub (ms.getD v 0) (iter (upR ms) s ms.length):=by
  intro v hv p hp;have h1:=zrG (zwP ms) _ _ hfix v (qaW.2 (he v p hp).1);unfold upS at h1;rw[if_pos hv]at h1;rw[<- h1,qbw,hp,Bool.or_true]
 constructor
 .intro hi;refine zn7 (f:=upR ms) (P:=λt=>∀ i,t.testBit i=true->∃ v,s.testBit v=true/\Reach ms v i) (λt ht=>?_) s (λi hi=>⟨i,hi,.refl i⟩) ms.length i hi;refine znx (P:=λt=>∀ i,t.testBit i=true->∃ v,s.testBit v=true/\Reach ms v i) (λt v ht i hi=>?_) _ t ht;unfold upS at hi;split at hi
  .rename_i hv;rw[qbw]at hi;rcases qcJ.1 hi with hi | hi
   .exact ht i hi
   obtain⟨u,h1,h2⟩:=ht v hv;exact⟨u,h1,h2.tr (.step hi (.refl i))⟩
  exact ht i hi
 rintro⟨v,h1,h2⟩;exact zy4 h2 (zs6 hsub s _ v h1) hclo
theorem NetOk.right{num:List Nat}{g:Nat}{ns:List NN}(h:NetOk num g ns):RightN g ns:=by
 have at_v:∀ v (hv:v<ns.length),∃ j,num[j]? = some v/\NodeOk num g (ns.map (·.c)) j ns[v]:=by
  intro v hv;obtain⟨j,hj,hjv⟩:=qcX.1 (h.perm.all v hv);exact⟨j,by rw[qac hj,hjv],h.node j v ns[v] (by rw[qac hj,hjv]) (qac hv)⟩
 have at_x:∀ x∈ns,∃ j v,num[j]? = some v/\NodeOk num g (ns.map (·.c)) j x:=by
  intro x hx;obtain⟨v,hv,rfl⟩:=qcX.1 hx;obtain⟨j,h1,h2⟩:=at_v v hv;exact⟨j,v,h1,h2⟩
 refine⟨h.g1,h.g2,h.n1,h.n2,h.zaF,h.prod,λx hx=>?_,λx hx p hp=>?_,λx hx=>?_,?_⟩
 .obtain⟨j,v,_,h2⟩:=at_x x hx;exact h2.par.inc
 .obtain⟨j,v,_,h2⟩:=at_x x hx;have:=h2.par.lt p hp;simpa using this
 .obtain⟨j,v,_,h2⟩:=at_x x hx;exact h2.rows
 refine⟨λv=>min (num.idxOf v) 8,λv=>qcL _ _,λv x hx p hp=>?_⟩;obtain⟨hv,rfl⟩:=qab.1 hx;obtain⟨j,h1,h2⟩:=at_v v hv;have hin:=h2.par.mem p hp;obtain⟨hj,ej⟩:=qab.1 h1;obtain⟨k,hk,ek0⟩:=hin;obtain⟨hk2,ek⟩:=qab.1 ek0;have i1:num.idxOf v=j:=by rw[<- ej]; exact h.perm.nod.idxOf_getElem j hj
 have i2:num.idxOf p=k:=by rw[<- ek]; exact h.perm.nod.idxOf_getElem k hk2
 have hn:=h.perm.len;have hn8:=h.n2;simp only[i1,i2];omega
theorem zfl(a b:List Nat):zac (a ++ b)=zac a * zac b:=by
 induction a with
 | nil=>simp[zac]
 | cons x a ih=>
  rw[qbc];show x * zac (a ++ b)=x * zac a * zac b;rw[ih,qa3]
theorem zra:∀(a b:List Nat) (j:Nat),0<zac b->j<zac a * zac b->dig (a ++ b) j=dig a (j / zac b)++ dig b (j % zac b)
 | [],b,j,_,h=>by
  have h:j<zac b:=by simpa [zac]using h
  simp[dig,qbb h]
 | c :: a,b,j,hb,h=>by
  have ha:0<zac a:=by
   rcases Nat.eq_zero_or_pos (zac a)with h0 | h0
   .have:zac (c :: a)=c * zac a:=rfl;rw[this,h0]at h;simp at h
   exact h0
  rw[qbc];simp only[dig];rw[zra a b (j % zac (a ++ b)) hb (by rw[zfl]; exact qa7 _ (qc1 ha hb)),zfl,qbc];have e1:j / (zac a * zac b)=j / zac b / zac a:=by rw[qda,qaS]
  have e2:j % (zac a * zac b) / zac b=j / zac b % zac a:=by rw[qaS,Nat.mod_mul_right_div_self]
  have e3:j % (zac a * zac b) % zac b=j % zac b:=Nat.mod_mod_of_dvd _ ⟨zac a,qaS _ _⟩;rw[e1,e2,e3]
def zDu(B c:Nat)(rows:List (List Nat))(j:Nat):Nat:=(rows.getD (j / (c * B)* B+j % B) []).getD (j / B % c) 0
variable{B:Nat}
theorem zwV{x j:Nat}(hB:0<B)(hx:x<c)(h:(j / (c * B)* B+j % B)* c+j / B % c=i * c+x):j=(i / B * c+x)* B+i % B:=by
 have hc:0<c:=by omega
 have h1:j / B % c=x:=by
  have:=congrArg (· % c) h;rw[qcj,qbz,Nat.mod_mod,qcj (i * c),qbz,qbb hx]at this;exact this
 have h2:j / (c * B)* B+j % B=i:=by
  have:(j / (c * B)* B+j % B)* c=i * c:=by omega
  exact Nat.eq_of_mul_eq_mul_right hc this
 have h3:i / B=j / (c * B):=by
  rw[<- h2,qcj,qcy _ _ hB,qb6 (qa7 _ hB),qaO]
 have h4:i % B=j % B:=by
  rw[<- h2,qcj,qbz,Nat.mod_mod]
 rw[h3,h4,<- h1];have e1:j / (c * B)=j / B / c:=by rw[qda,qaS]
 rw[e1];have e2:=qcd (j / B) c;have e3:=qcd j B;rw[qaS c]at e2;rw[e2,qaS (j / B)];omega
variable{A:Nat}
theorem zDU{x:Nat}(hi:i<A * B)(hx:x<c):(i / B * c+x)* B+i % B<A * c * B:=by
 have hB:0<B:=by
  rcases Nat.eq_zero_or_pos B with h | h
  .subst h; simp at hi
  exact h
 have h1:i / B<A:=qbQ (by rw[qaS]; exact hi);have h2:i % B<B:=qa7 _ hB;have h3:i / B * c+x<A * c:=by
  have:=qas c (show i / B+1<=A from h1);rw[qaQ,qa2]at this;omega
 have h4:=qas B (show i / B * c+x+1<=A * c from h3);rw[qaQ,qa2]at h4;omega
theorem zFd{x:Nat}(hB:0<B)(hx:x<c):((i / B * c+x)* B+i % B) / (c * B)* B+((i / B * c+x)* B+i % B) % B=i/\((i / B * c+x)* B+i % B) / B % c=x:=by
 have h2:i % B<B:=qa7 _ hB;have e1:((i / B * c+x)* B+i % B) / B=i / B * c+x:=by rw[qcj,qcy _ _ hB,qb6 h2,qaO]
 have e2:((i / B * c+x)* B+i % B) % B=i % B:=by rw[qcj,qbz,Nat.mod_mod]
 have e3:(i / B * c+x) / c=i / B:=by rw[qcj,qcy _ _ (by omega),qb6 hx,qaO]
 have e4:(i / B * c+x) % c=x:=by rw[qcj,qbz,qbb hx]
 refine⟨?_,by rw[e1,e4]⟩;rw[qaS c,<- qda,e1,e3,e2,qaS];exact qcd i B
structure Fil (A B c:Nat) (rows:List (List Nat)) (k:Nat) (w:List Nat):Prop where
 len:w.length=A * c * B
 at_:∀ j,j<A * c * B->(j / (c * B)* B+j % B)* c+j / B % c<k->w.getD j 0=zDu B c rows j
theorem Fil.step{A B c i x:Nat}{rows:List (List Nat)}{w:List Nat}(h:Fil A B c rows (i * c+x) w)(hB:0<B)(hi:i<A * B)(hx:x<c):
  Fil A B c rows (i * c+(x+1)) (w.set ((i / B * c+x)* B+i % B) ((rows.getD i []).getD x 0)):=by
 have hlt:=zDU (A:=A) hi hx;refine⟨by rw[qaw]; exact h.len,λj hj hk=>?_⟩;by_cases e:(i / B * c+x)* B+i % B=j
 .subst e;obtain⟨k1,k2⟩:=zFd (i:=i) hB hx;unfold zDu;rw[k1,k2,qag,qa1 (by rw[h.len]; exact hlt),qbA]
 rw[qag,qaD e,<- qag];refine h.at_ j hj ?_;rcases qa0 ((j / (c * B)* B+j % B)* c+j / B % c) (i * c+x)with g | g
 .exact g
 exact absurd (zwV hB hx (by omega)).symm e
variable{rows:List (List Nat)}{w:List Nat}
theorem Fil.next(h:Fil A B c rows (i * c+c) w):Fil A B c rows ((i+1)* c+0) w:=by
 rw[qbH,qaQ,qa2]; exact h
theorem Fil.start(A B c:Nat)(rows:List (List Nat)):Fil A B c rows (0 * c+0) (List.replicate (A * c * B) 0):=
 ⟨by simp,λj _ h=>absurd h (by omega)⟩
theorem Fil.all(h:Fil A B c rows (A * B * c+0) w)(hB:0<B)(hc:0<c):w=(List.range' 0 (A * c * B)).map (zDu B c rows):=by
 apply qbJ
 .simp[h.len]
 intro j h1 h2;have hj:j<A * c * B:=by rw[<- h.len]; exact h1
 have hk:(j / (c * B)* B+j % B)* c+j / B % c<A * B * c+0:=by
  have g1:j / (c * B)<A:=qbQ (by rw[qaS (c * B),<- qa3]; exact hj);have g2:j % B<B:=qa7 _ hB;have g3:j / B % c<c:=qa7 _ hc;have g4:=qas B (show j / (c * B)+1<=A from g1);rw[qaQ,qa2]at g4;have g5:=qas c (show j / (c * B)* B+j % B+1<=A * B by omega);rw[qaQ,qa2]at g5;omega
 have:=h.at_ j hj hk;rw[qag,qac h1,qbA]at this;rw[this];simp
end Go.Dc
