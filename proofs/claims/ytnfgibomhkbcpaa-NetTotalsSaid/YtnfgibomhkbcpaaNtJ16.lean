/-
 Plain laws: the greedy order of a net. Conditions: none.
-/
import Derived.Test.YtnfgibomhkbcpaaNtJ15
set_option linter.unusedSimpArgs false
set_option linter.unusedVariables false
namespace Go.Dc
open Go Go.Mx Go.Lx
def zmb(ms:List Nat)(mask v:Nat):Prop:=mask.testBit v=false∧Sub (ms.getD v 0) mask
structure First (ms:List Nat) (mask v:Nat):Prop where
 lt:v<ms.length
 ready:zmb ms mask v
 least:∀ u,u<v→¬ zmb ms mask u
def zfv(ms os:List Nat):Prop:=∀ k v,os[k]? = some v→First ms (zdX (os.take k)) v
theorem zfv.app{ms os:List Nat}{v:Nat}(h:zfv ms os)(hv:First ms (zdX os) v):zfv ms (os ++ [v]):=by
 intro k u hk;by_cases hl:k<os.length
 ·rw[qak hl]at hk;rw[qcm (by omega)];exact h k u hk
 have hk2:k=os.length:=by
  have:=(qab.1 hk).1;simp at this;omega
 subst hk2;have hu:u=v:=by simpa using hk.symm
 subst hu;simpa using hv
theorem zfv.nod{ms os:List Nat}(h:zfv ms os):os.Nodup:=by
 rw[List.Nodup,qbd];intro i j hi hj hij he;have h1:=(h j os[j] (qad hj)).ready.1;rw[zfK]at h1;have:os[j]∈os.take j:=by
  rw[← he];exact List.mem_take_iff_getElem.2 ⟨i,by omega,rfl⟩
 simp[this]at h1
theorem zfv.lt{ms os:List Nat}(h:zfv ms os):∀ x∈os,x<ms.length:=by
 intro x hx;obtain⟨k,hk⟩:=qbH hx;exact(h k x hk).lt
theorem zsi:∀ {xs ys:List Nat},xs.Nodup→(∀ x∈xs,x∈ys)→xs.length≤ys.length
 | [],_,_,_=>qaz _
 | x :: xs,ys,h,hs=>by
  obtain⟨h1,h2⟩:=qbp.1 h;have hx:=hs x qan;have ih:=zsi (xs:=xs) (ys:=ys.erase x) h2 fun y hy=>(List.mem_erase_of_ne (fun q:y=x=>h1 (by rw[← q]; exact hy))).2 (hs y (qaj _ hy))
  rw[List.length_erase_of_mem hx]at ih;have:=List.length_pos_of_mem hx;simp only[qaE];omega
theorem zut{ms:List Nat}{mask:Nat}:∀ v,v<ms.length→zmb ms mask v→∃ u,First ms mask u:=by
 intro v;induction v using Nat.strongRecOn with
 | ind v ih=>
  intro hv hr;by_cases h:∃ u,u<v∧zmb ms mask u
  ·obtain⟨u,hu,hur⟩:=h;exact ih u hu (by omega) hur
  exact⟨v,hv,hr,fun u hu hur=>h ⟨u,hu,hur⟩⟩
def zbf(ns:List NN):List Nat:=ns.map fun x=>zdX x.ps
theorem RightN.zkJ{g:Nat}{ns:List NN}(h:RightN g ns):∀ m∈zbf ns,m<18446744073709551616:=by
 intro m hm;obtain⟨x,hx,rfl⟩:=qaF.1 hm;refine Go.Dc.zkJ fun p hp=>?_
 have:=h.lt x hx p hp;have:=h.n2;omega
theorem RightN.ready{g:Nat}{ns:List NN}(h:RightN g ns)(os:List Nat){rk:Nat→Nat}(hrk:∀ v x,ns[v]? = some x→∀ p∈x.ps,rk p<rk v):∀(j v:Nat),rk v=j→v<ns.length→v ∉ os→∃ u,u<ns.length∧zmb (zbf ns) (zdX os) u:=by
 intro j;induction j using Nat.strongRecOn with
 | ind j ih=>
  intro v hj hvl hv;by_cases hp:∃ p,p∈ns[v].ps∧p ∉ os
  ·obtain⟨p,hp1,hp2⟩:=hp;have:=hrk v _ (qad hvl) p hp1;exact ih (rk p) (by omega) p rfl (h.lt _ (qav hvl) p hp1) hp2
  refine⟨v,hvl,by rw[zfK]; simp[hv],fun i hi=>?_⟩;rw[show(zbf ns).getD v 0=zdX ns[v].ps by simp[zbf,hvl],zfK]at hi;rw[zfK];have hi2:=of_decide_eq_true hi;refine decide_eq_true ?_;exact qcd fun hno=>hp ⟨i,hi2,hno⟩
theorem RightN.next{g:Nat}{ns:List NN}(h:RightN g ns){os:List Nat}(hl:os.length<ns.length):∃ v,First (zbf ns) (zdX os) v:=by
 obtain⟨rk,_,hrk⟩:=h.rk;by_cases hs:∀ x∈List.range ns.length,x∈os
 ·have:=zsi qcr hs;rw[qcV]at this;omega
 have:∃ x,x∈List.range ns.length∧x ∉ os:=qcd fun hno=>hs fun x hx=>qcd fun hx2=>hno ⟨x,hx,hx2⟩
 obtain⟨x,hx,hxo⟩:=this;obtain⟨u,hu,hr⟩:=h.ready os hrk _ x rfl (qbl.1 hx) hxo;exact zut u (by simpa [zbf]using hu) hr
theorem zra{ms:List Nat}{mask i:Nat}{β:Type}(hm:∀ m∈ms,m<18446744073709551616)(hk:mask<18446744073709551616)(hi:i<ms.length)(h64:i<64)(l:β):
  ∃ b:Bool,(b=true↔zmb ms mask i)∧((ziT .u64 (mask:Int) (i:Int)).bind fun q7=>bif ((zkO .u64 q7 1)== 0)then some (((zzL .u64 ((ms[i]:Nat):Int) (mask:Int))== 0),l)else some (false,l))=some (b,l)∧
   ((ziT .u64 (mask:Int) (i:Int)).bind fun q7=>bif ((zkO .u64 q7 1)== 0)then some ((zzL .u64 ((ms[i]:Nat):Int) (mask:Int))== 0)else some false)=some b:=by
 obtain⟨q,h1,h2⟩:=zA1 (a:=mask) (v:=i) hk h64;have hmi:=hm _ (qav hi);have hg:ms.getD i 0=ms[i]:=by simp[hi]
 simp only[h1,qaa,h2,zBV];cases hb:mask.testBit i with
 | true=>exact⟨false,by simp[zmb,hb],rfl,rfl⟩
 | false=>
  refine⟨(((diff ms[i] mask:Nat):Int)== 0),?_,rfl,rfl⟩;rw[zmb,hb,hg,← ztk hmi hk];simp
theorem zl8{ms os:List Nat}{mask C v:Nat}(hn:ms.length≤8)(hm:∀ m∈ms,m<18446744073709551616)(hk:mask<18446744073709551616)(hC:os.length+1≤C)(hv:First ms mask v):∀(n i:Nat),i≤v→v - i<n →
  zck (iL ms) (mask:Int) C n (i:Int) (iL os)=some (.brk (((mask ||| 2 ^ v:Nat):Int),iL (os ++ [v])))
 | 0,_,_,h=>absurd h (qar _)
 | n+1,i,h1,h3=>by
  unfold zck;have hvl:=hv.lt;have hi:i<ms.length:=by omega
  obtain⟨b,hb,e,_⟩:=zra hm hk hi (by omega) (iL os);rw[zan,zaA,decide_eq_true hi,cond_true,za1 hi,qaa,e,qaa];simp only[];by_cases hiv:i=v
  ·subst hiv;have hpw:2 ^ i<18446744073709551616:=qcE (n:=64) (by decide) (by omega);rw[hb.2 hv.ready,cond_true];unfold zod;rw[if_pos (by simp[zan]; omega),qaa,zAN (by omega),qaa,orU hk hpw];simp[iL]
  have:b=false:=by
   cases b with
   | false=>rfl
   | true=>exact absurd (hb.1 rfl) (hv.least i (by omega))
  rw[this,cond_false,zam (by omega),zl8 hn hm hk hC hv n (i+1) (by omega) (by omega)]
theorem zmi{g:Nat}{ns:List NN}(h:RightN g ns):∀(n:Nat) (os:List Nat),zfv (zbf ns) os→os.length≤ns.length→ns.length - os.length<n →
  ∃ os',zfv (zbf ns) os'∧os'.length=ns.length∧zcp (iL (zbf ns)) ns.length n ((zdX os:Nat):Int) (iL os)=some (.go (iL os'))
 | 0,_,_,_,h=>absurd h (qar _)
 | n+1,os,h1,h2,h3=>by
  unfold zcp;have hml:(zbf ns).length=ns.length:=by simp[zbf]
  have hn:=h.n2;rw[zan,zan,hml,zaA];by_cases hl:os.length<ns.length
  ·obtain⟨v,hv⟩:=h.next hl;have hvl:=hv.lt;have hk:zdX os<18446744073709551616:=Go.Dc.zkJ fun x hx=>by
    have:=h1.lt x hx;omega
   have e:=zl8 (os:=os) (C:=ns.length) (by omega) h.zkJ hk (by omega) hv (ns.length+2) 0 (qaz _) (by omega);rw[show((0:Nat):Int)=0 from rfl]at e;obtain⟨os',g1,g2,g3⟩:=zmi h n (os ++ [v]) (h1.app hv) (by simp; omega) (by simp; omega);refine⟨os',g1,g2,?_⟩;rw[decide_eq_true hl,cond_true,zaL,e,qaa];simp only[];rw[← zuz,g3]
  exact⟨os,h1,by omega,by rw[decide_eq_false hl,cond_false]⟩
theorem zsA{g:Nat}{ns:List NN}(h:RightN g ns):
  ∃ os,zfv (zbf ns) os∧os.length=ns.length∧zdA (iL (zbf ns))=some (iL os,true):=by
 have hml:(zbf ns).length=ns.length:=by simp[zbf]
 have hn:=h.n2;obtain⟨os,g1,g2,g3⟩:=zmi h (ns.length+2) [] (fun k v hk=>by simp at hk) (qaz _) (by simp);refine⟨os,g1,g2,?_⟩;unfold zdA;rw[zan,hml];have hcap:zxT 8 ((ns.length:Nat):Int)=some ns.length:=by
  unfold zxT;rw[if_pos ⟨qby _,by simp only[zai]; omega⟩,qaH]
 rw[hcap,qaa,show(((ns.length:Nat):Int) - ((([]:List Int).length:Nat):Int)+2).toNat=ns.length+2 by simp; omega];rw[show((zdX []:Nat):Int)=0 from rfl,show iL []=[]from rfl]at g3;rw[g3,qaa]
theorem zh2{g:Nat}{ns:List NN}(h:RightN g ns):
  ∃ os,zfv (zbf ns) os∧os.length=ns.length∧zcP (zc8 g ns)=some (⟨zc8 g ns,iL (ns.map (·.c)),iL (zbf ns),iL os⟩,0):=by
 obtain⟨os,g1,g2,g3⟩:=zsA h;refine⟨os,g1,g2,?_⟩;have h1:=h.g1;have h2:=h.g2;have h3:=h.n1;have h4:=h.n2;have hl:(zc8 g ns).nodes.length=ns.length:=by simp[zc8]
 have hp:=h.prod;have e1:=zr4 (g:=g) (P:=zac (ns.map (·.c))) h.n2 h.zaE (by omega) (ns.length+2) [] ns 1 rfl (qbf _) (by omega);have e2:=zr3 h (ns.length+2) [] ns rfl (by omega);simp only[qcW,qa8,qaR]at e1 e2;rw[show((0:Nat):Int)=0 from rfl]at e1 e2;rw[show((1:Nat):Int)=1 from rfl]at e1;have hz:List.replicate ns.length (0:Int)=iL (List.replicate ns.length 0):=by simp[iL]
 unfold zcP
 rw[hl,show(zc8 g ns).grain=(g:Int)from rfl,show decide ((g:Int)<1)=false from decide_eq_false (by omega),cond_false,show decide ((60:Int)<(g:Int))=false from decide_eq_false (by omega),cond_false,
  show decide (((ns.length:Nat):Int)<1)=false from decide_eq_false (by omega),cond_false,qaa,show decide ((8:Int)<((ns.length:Nat):Int))=false from decide_eq_false (by omega),cond_false,
  zdB (by omega),qaa,qaa,zaL,hz,e1,qaa]
 simp only[];rw[show decide ((1024:Int)<((zac (ns.map (·.c)):Nat):Int))=false from decide_eq_false (by omega),cond_false,e2,qaa];simp only[];rw[show(ns.map fun x=>zdX x.ps)=zbf ns from rfl,g3,qaa];simp only[];rw[cond_true]
inductive Reach (ms:List Nat):Nat→Nat→Prop
 | refl (i:Nat):Reach ms i i
 | step {s p i:Nat}:(ms.getD s 0).testBit p=true→Reach ms p i→Reach ms s i
theorem zrs{xs:List Nat}{i:Nat}(h:i<xs.length):zaZ (iL xs) (i:Int)=some ((xs.getD i 0:Nat):Int):=by
 rw[za1 h]; simp[h]
theorem Reach.tr{ms:List Nat}{a b c:Nat}(h1:Reach ms a b)(h2:Reach ms b c):Reach ms a c:=by
 induction h1 with
 | refl=>exact h2
 | step e _ ih=>exact .step e (ih h2)
theorem zw6{n:Nat}{os:List Nat}(hd:os.Nodup)(hl:os.length=n)(hlt:∀ x∈os,x<n):∀ v,v<n→v∈os:=by
 intro v hv;refine qcd fun hno=>?_
 have:=zsi (xs:=v :: os) (ys:=List.range n) (qbp.2 ⟨hno,hd⟩) fun y hy=>by
  rcases qaK.1 hy with rfl | hy
  ·exact qbl.2 hv
  exact qbl.2 (hlt y hy)
 rw[qcV,qaE]at this;omega
def cnt(n s:Nat):Nat:=(List.range n).countP (s.testBit ·)
def zwZ(m:Int):Int→List Int→Prop
 | _,[]=>True
 | lo,p :: r=>lo<p∧p<m∧zwZ m p r
theorem zwZ.of{m:Nat}:∀ {qs:List Nat} {lo:Int},qs.Pairwise (· < ·)→(∀ q∈qs,lo<(q:Int))→(∀ q∈qs,q<m)→zwZ m lo (iL qs)
 | [],lo,_,_,_=>trivial
 | q :: r,lo,h,h1,h2=>by
  obtain⟨h3,h4⟩:=qbg.1 h;show lo<(q:Int)∧(q:Int)<(m:Int)∧zwZ m (q:Int) (iL r);refine⟨h1 q qan,by have:=h2 q qan; omega,zwZ.of h4 (fun p hp=>by have:=h3 p hp; omega) fun p hp=>h2 p (qaj _ hp)⟩
theorem zxY{a b:List Nat}(h:iL a=iL b):a=b:=by
 have:=congrArg (List.map Int.toNat) h;simpa [iL,qch]using this
theorem zfE(cs:List Nat)(c:Nat):zac (cs ++ [c])=zac cs * c:=by
 induction cs with
 | nil=>simp[zac]
 | cons x xs ih=>show x * zac (xs ++ [c])=x * zac xs * c; rw[ih,qaZ]
theorem zxw{cs:List Nat}(h:∀ c∈cs,1≤c∧c≤4)(hl:cs.length≤8):zac cs≤65536:=
 qap (zhO (m:=4) (by omega) fun x hx=>(h x hx).2) (qap (qbI (by decide) hl) (by decide))
structure BndX (k:Nat) (x:S_api_Node):Prop where
 par:x.parents.length≤k
 rows:x.rows.length≤k
 row:∀ r∈x.rows,r.length≤k
structure BndK (k:Nat) (d:S_api_Net):Prop where
 nodes:d.nodes.length≤k
 node:∀ x∈d.nodes,BndX k x
theorem BndX.mono{k m:Nat}{x:S_api_Node}(h:BndX k x)(hk:k≤m):BndX m x:=⟨qap h.par hk,qap h.rows hk,fun r hr=>qap (h.row r hr) hk⟩
theorem BndK.mono{k m:Nat}{d:S_api_Net}(h:BndK k d)(hk:k≤m):BndK m d:=⟨qap h.nodes hk,fun x hx=>(h.node x hx).mono hk⟩
theorem BndK.set{k t:Nat}{g:Int}{d:S_api_Net}{y:S_api_Node}(h:BndK k d)(hy:BndX k y):BndK k ⟨g,d.nodes.set t y⟩:=
 ⟨by simpa using h.nodes,fun x hx=>by
  rcases List.mem_or_eq_of_mem_set hx with hx | hx
  ·exact h.node x hx
  rw[hx]; exact hy⟩
theorem Sub.tr{a b c:Nat}(h1:Sub a b)(h2:Sub b c):Sub a c:=fun i h=>h2 i (h1 i h)
structure RN where
 c:Nat
 ps:List Nat
 rows:List (List Int)
def rd(x:RN):S_api_Node:=⟨x.c,iL x.ps,x.rows⟩
def P1(m:Int)(y:S_api_Node):Prop:=(1≤y.zaE∧y.zaE≤4)∧zwZ m (-1) y.parents
theorem zvO:∀ {zs:List Nat} {z:Nat},z∈zs→z≤zs.sum
 | x :: xs,z,h=>by
  rw[qcQ];rcases qaK.1 h with rfl | h
  ·omega
  have:=zvO h; omega
theorem RightN.p1{g:Nat}{ns:List NN}(h:RightN g ns):∀ y∈ns.map nd,P1 (ns.length:Int) y:=by
 intro y hy;obtain⟨x,hx,rfl⟩:=qaF.1 hy;have hc:=h.zaE x hx;exact⟨⟨by simp only[nd]; omega,by simp only[nd]; omega⟩,zwZ.of (h.inc x hx) (fun q _=>by omega) (h.lt x hx)⟩
end Go.Dc
