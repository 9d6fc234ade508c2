/-
 Plain laws: a net that is right is read. Conditions: none.
-/
import Derived.Test.YtbjogdohfhdaiaaGreatESJ11
set_option linter.unusedSimpArgs false
set_option linter.unusedVariables false
namespace Go.Dc
open Go Go.Mx Go.Lx
def zbQ(g:Nat)(ns:List NN):S_api_Net:=⟨(g:Int),ns.map nd⟩
theorem zqW{g P:Nat}{ns:List NN}(hn:ns.length≤8)(hc:∀ x∈ns,1≤x.c∧x.c≤4)(hP:P≤65536):∀(n:Nat) (xs ys:List NN) (a:Nat),xs ++ ys=ns→a * zac (ys.map (·.c))=P→ys.length<n →
  zcp (zbQ g ns) n (a:Int) (xs.length:Int) (iL (xs.map (·.c)++ List.replicate ys.length 0))=some (.go ((P:Int),iL (ns.map (·.c))))
 | 0,_,_,_,_,_,h=>absurd h (qap _)
 | n+1,xs,[],a,h1,h2,h3=>by
  unfold zcp;rw[qbi]at h1;subst h1;have:a=P:=by rw[← h2]; simp[zac]
  subst this;rw[show(zbQ g xs).nodes.length=xs.length by simp[zbQ],zaz,decide_eq_false (by omega),cond_false];simp
 | n+1,xs,y :: ys,a,h1,h2,h3=>by
  unfold zcp;have hl:(zbQ g ns).nodes.length=ns.length:=by simp[zbQ]
  have hxn:xs.length<ns.length:=by rw[← h1]; simp
  have hy:ns[xs.length]=y:=by subst h1; simp
  have hyc:=hc y (by rw[← h1]; simp);have e2:a * y.c * zac (ys.map (·.c))=P:=by rw[← h2]; exact qa4 _ _ _
  have hq:1≤zac (ys.map (·.c)):=zdj fun c hcm=>by
   obtain⟨z,hz,rfl⟩:=qaB.1 hcm;exact(hc z (by rw[← h1]; simp[hz])).1
  have hle:a * y.c≤P:=by rw[← e2]; exact qaZ _ hq
  have ih:=zqW hn hc hP (g:=g) n (xs ++ [y]) ys (a * y.c) (by rw[← h1]; simp) e2 (by simp at h3; omega)
  rw[hl,zaz,decide_eq_true hxn,cond_true,show za3 (zbQ g ns).nodes (xs.length:Int)=some (nd y) by rw[← hy]; exact zch hxn,qaa,
   show(nd y).zaD=(y.c:Int)from rfl,show decide ((y.c:Int)<1)=false from decide_eq_false (by omega),cond_false,qaa,show decide ((4:Int)<(y.c:Int))=false from decide_eq_false (by omega),cond_false]
  have hxl:((xs.length:Nat):Int)=(((xs.map (·.c)).length:Nat):Int):=by simp
  rw[qaS,qa0,hxl,zdU,qaa,zhK,qaa,← qbg,zaH (by omega),zal (by simp; omega),← ih];simp
theorem zrz{g v:Nat}{ns:List NN}{x:S_api_Node}{ps xs ys:List Nat}(hx:x.parents=iL ps)(hn:ns.length≤8)(hv:xs.length=v)(hp:∀ p∈ps,p<ns.length∧p≠v)(hinc:ps.Pairwise (· < ·)):∀(n i:Nat) (m:Nat) (lo:Int),i≤ps.length→m<18446744073709551616 →
  (∀ p∈ps.drop i,lo<(p:Int))→ps.length - i<n →
  zcZ x (zbQ g ns) (v:Int) n lo (i:Int) (iL (xs ++ m :: ys))=some (.go (iL (xs ++ ((ps.drop i).foldl (fun m p=>m ||| 2 ^ p) m):: ys)))
 | 0,_,_,_,_,_,_,h=>absurd h (qap _)
 | n+1,i,m,lo,h1,h2,h4,h3=>by
  have hps:ps.length≤9223372036854775806∨True:=.inr trivial;unfold zcZ;have hl:(zbQ g ns).nodes.length=ns.length:=by simp[zbQ]
  rw[hx,zao,hl];by_cases hi:i<ps.length
  ·have hd:ps.drop i=ps[i]:: ps.drop (i+1):=qaG hi;obtain⟨hp1,hp2⟩:=hp _ (qat hi);have hlo:=h4 ps[i] (by rw[hd]; exact qao);have hsm:i≤ps[i]:=by
    have:∀(j:Nat) (hj:j<ps.length),j≤ps[j]:=by
     intro j;induction j with
     | zero=>intro hj; exact qaC _
     | succ j ih=>
      intro hj;have h6:=ih (by omega);have h7:=qbb.1 hinc j (j+1) (by omega) hj (by omega);omega
    exact this i hi
   have hgt:∀ p∈ps.drop (i+1),((ps[i]:Nat):Int)<(p:Int):=by
    intro p hp;obtain⟨k,hk,rfl⟩:=qcp.1 hp;rw[List.getElem_drop];have:=qbb.1 hinc i (i+1+k) hi (by simp at hk; omega) (by omega);omega
   have hpw:2 ^ ps[i]<18446744073709551616:=qa7 (n:=64) (by decide) (by omega);have hm:m ||| 2 ^ ps[i]<18446744073709551616:=qbo (n:=64) h2 hpw;have ih:=zrz (g:=g) (ys:=ys) hx hn hv hp hinc n (i+1) (m ||| 2 ^ ps[i]) (ps[i]:Int) hi hm hgt (by omega)
   rw[zaz,decide_eq_true hi,cond_true,zbf hi,qaa,show decide (((ps[i]:Nat):Int)≤lo)=false from decide_eq_false (by omega),cond_false,
    show decide (((ns.length:Nat):Int)≤((ps[i]:Nat):Int))=false from decide_eq_false (by omega),cond_false,qaa,show(((ps[i]:Nat):Int)==(v:Int))=false by simp; omega,cond_false,
    ← hv,zdU,qaa,ztC (by omega),qaa,orU h2 hpw,zhK,qaa,zal (by omega),hv,ih,hd,qcq]
  rw[zaz,decide_eq_false hi,cond_false,qbu (by omega)];rfl
structure RightN (g:Nat) (ns:List NN):Prop where
 g1:1≤g
 g2:g≤60
 n1:1≤ns.length
 n2:ns.length≤8
 zaD:∀ x∈ns,1≤x.c∧x.c≤4
 prod:zac (ns.map (·.c))≤1024
 inc:∀ x∈ns,x.ps.Pairwise (· < ·)
 lt:∀ x∈ns,∀ p∈x.ps,p<ns.length
 rows:∀ x∈ns,RowsOk g x.c (zac (x.ps.map fun p=>(ns.map (·.c)).getD p 0)) x.rows
 rk:∃ rk:Nat→Nat,(∀ v,rk v≤8)∧∀ v x,ns[v]? = some x→∀ p∈x.ps,rk p<rk v
theorem zna{n:Nat}{ps:List Nat}(h:ps.Pairwise (· < ·))(hp:∀ p∈ps,p<n):ps.length≤n:=by
 have:∀(j:Nat) (hj:j<ps.length),j≤ps[j]:=by
  intro j;induction j with
  | zero=>intro hj; exact qaC _
  | succ j ih=>
   intro hj;have h6:=ih (by omega);have h7:=qbb.1 h j (j+1) (by omega) hj (by omega);omega
 cases hl:ps.length with
 | zero=>exact qaC _
 | succ m=>
  have h1:=this m (by omega);have h2:=hp _ (qat (show m<ps.length by omega));omega
theorem RightN.zAa{g:Nat}{ns:List NN}(h:RightN g ns){x:NN}(hx:x∈ns):x.ps.length≤8:=by
 have:=zna (h.inc x hx) (h.lt x hx);have:=h.n2;omega
theorem RightN.ne{g:Nat}{ns:List NN}(h:RightN g ns){v:Nat}{x:NN}(hx:ns[v]? = some x):∀ p∈x.ps,p≠v:=by
 obtain⟨rk,_,h2⟩:=h.rk;intro p hp he;subst he;exact qcY _ (h2 p x hx p hp)
theorem RightN.zzf{g:Nat}{ns:List NN}(h:RightN g ns){x:NN}(hx:x∈ns):∀ p∈x.ps,1≤(ns.map (·.c)).getD p 0∧(ns.map (·.c)).getD p 0≤4:=by
 intro p hp;have hp1:=h.lt x hx p hp;have:=h.zaD ns[p] (qat hp1);simpa [hp1]using this
theorem RightN.zAc{g:Nat}{ns:List NN}(h:RightN g ns){x:NN}(hx:x∈ns):zac (x.ps.map fun p=>(ns.map (·.c)).getD p 0)≤65536:=by
 refine qam (zhz (m:=4) (by omega) fun y hy=>?_) ?_
 ·obtain⟨p,hp,rfl⟩:=qaB.1 hy;exact(h.zzf hx p hp).2
 rw[qaA];exact qam (qbT (by decide) (h.zAa hx)) (by decide)
theorem zsy{g:Nat}{ns:List NN}(h:RightN g ns):∀(n:Nat) (xs ys:List NN),xs ++ ys=ns→ys.length<n →
  zco (zbQ g ns) (iL (ns.map (·.c))) n (xs.length:Int) (iL (xs.map (fun x=>zcJ x.ps)++ List.replicate ys.length 0))=some (.go (iL (ns.map fun x=>zcJ x.ps)))
 | 0,_,_,_,h=>absurd h (qap _)
 | n+1,xs,[],h1,h3=>by
  unfold zco;rw[qbi]at h1;subst h1;rw[show(zbQ g xs).nodes.length=xs.length by simp[zbQ],zaz,decide_eq_false (by omega),cond_false];simp
 | n+1,xs,y :: ys,h1,h3=>by
  unfold zco;have hl:(zbQ g ns).nodes.length=ns.length:=by simp[zbQ]
  have hxn:xs.length<ns.length:=by rw[← h1]; simp
  have hn:=h.n2;have hy:ns[xs.length]=y:=by subst h1; simp
  have hyg:ns[xs.length]? = some y:=by rw[qac hxn,hy]
  have hym:y∈ns:=qaw hyg;have hcl:(ns.map (·.c)).length=ns.length:=by simp
  have hlt:∀ p∈y.ps,p<ns.length∧p≠xs.length:=fun p hp=>⟨h.lt y hym p hp,h.ne hyg p hp⟩
  have hcs:=h.zzf hym;have hpl:=h.zAa hym;have hprod:=h.zAc hym;have hyc:=h.zaD y (by rw[← h1]; simp);have ih:=zsy h n (xs ++ [y]) ys (by rw[← h1]; simp) (by simp at h3; omega);have e3:=zrz (g:=g) (ns:=ns) (x:=nd y) (xs:=xs.map fun x=>zcJ x.ps) (ys:=List.replicate ys.length 0) (v:=xs.length) rfl hn (by simp) hlt (h.inc y hym) (y.ps.length+2) 0 0 (-1) (qaC _) (by decide) (fun p hp=>by omega) (by omega);rw[show((0:Nat):Int)=0 from rfl,qby]at e3;have e4:=zr8 (g:=g) (cs:=ns.map (·.c)) (nodes:=ns.map nd) (sets:=iL (xs.map (fun x=>zcJ x.ps)++ zcJ y.ps :: List.replicate ys.length 0)) (order:=[]) (x:=y) h.g2 (by rw[hcl]; exact fun p hp=>(hlt p hp).1) (by omega) (fun p hp=>(hcs p hp).1) (by omega) hprod (h.rows y hym)
  rw[hl,zaz,decide_eq_true hxn,cond_true,show za3 (zbQ g ns).nodes (xs.length:Int)=some (nd y) by rw[← hy]; exact zch hxn,qaa,qaS,qa0,
   show(nd y).parents.length=y.ps.length by simp[nd,zao],zaN,e3,qaa]
  simp only[];rw[show(y.ps.foldl (fun m p=>m ||| 2 ^ p) 0)=zcJ y.ps from rfl];rw[show zbQ g ns=⟨(g:Int),ns.map nd⟩from rfl]at ih ⊢;rw[e4,qaa,cond_true,zal (by omega),← ih];simp
def zlp(ms:List Nat)(mask v:Nat):Prop:=mask.testBit v=false∧Sub (ms.getD v 0) mask
structure First (ms:List Nat) (mask v:Nat):Prop where
 lt:v<ms.length
 ready:zlp ms mask v
 least:∀ u,u<v→¬ zlp ms mask u
def ze8(ms os:List Nat):Prop:=∀ k v,os[k]? = some v→First ms (zcJ (os.take k)) v
theorem ze8.app{ms os:List Nat}{v:Nat}(h:ze8 ms os)(hv:First ms (zcJ os) v):ze8 ms (os ++ [v]):=by
 intro k u hk;by_cases hl:k<os.length
 ·rw[qal hl]at hk;rw[List.take_append_of_le_length (by omega)];exact h k u hk
 have hk2:k=os.length:=by
  have:=(qab.1 hk).1;simp at this;omega
 subst hk2;have hu:u=v:=by simpa using hk.symm
 subst hu;simpa using hv
theorem ze8.nod{ms os:List Nat}(h:ze8 ms os):os.Nodup:=by
 rw[List.Nodup,qbb];intro i j hi hj hij he;have h1:=(h j os[j] (qac hj)).ready.1;rw[zeu]at h1;have:os[j]∈os.take j:=by
  rw[← he];exact List.mem_take_iff_getElem.2 ⟨i,by omega,rfl⟩
 simp[this]at h1
theorem ze8.lt{ms os:List Nat}(h:ze8 ms os):∀ x∈os,x<ms.length:=by
 intro x hx;obtain⟨k,hk⟩:=qbK hx;exact(h k x hk).lt
theorem zvA:∀ {xs ys:List Nat},xs.Nodup→(∀ x∈xs,x∈ys)→xs.length≤ys.length
 | [],_,_,_=>qaC _
 | x :: xs,ys,h,hs=>by
  obtain⟨h1,h2⟩:=qbh.1 h;have hx:=hs x qao;have ih:=zvA (xs:=xs) (ys:=ys.erase x) h2 fun y hy=>(List.mem_erase_of_ne (fun q:y=x=>h1 (by rw[← q]; exact hy))).2 (hs y (qaj _ hy))
  rw[List.length_erase_of_mem hx]at ih;have:=List.length_pos_of_mem hx;simp only[qaS];omega
theorem zt5{ms:List Nat}{mask:Nat}:∀ v,v<ms.length→zlp ms mask v→∃ u,First ms mask u:=by
 intro v;induction v using Nat.strongRecOn with
 | ind v ih=>
  intro hv hr;by_cases h:∃ u,u<v∧zlp ms mask u
  ·obtain⟨u,hu,hur⟩:=h;exact ih u hu (by omega) hur
  exact⟨v,hv,hr,fun u hu hur=>h ⟨u,hu,hur⟩⟩
def zam(ns:List NN):List Nat:=ns.map fun x=>zcJ x.ps
theorem RightN.zfT{g:Nat}{ns:List NN}(h:RightN g ns):∀ m∈zam ns,m<18446744073709551616:=by
 intro m hm;obtain⟨x,hx,rfl⟩:=qaB.1 hm;refine Go.Dc.zfT fun p hp=>?_
 have:=h.lt x hx p hp;have:=h.n2;omega
theorem RightN.ready{g:Nat}{ns:List NN}(h:RightN g ns)(os:List Nat){rk:Nat→Nat}(hrk:∀ v x,ns[v]? = some x→∀ p∈x.ps,rk p<rk v):∀(j v:Nat),rk v=j→v<ns.length→v ∉ os→∃ u,u<ns.length∧zlp (zam ns) (zcJ os) u:=by
 intro j;induction j using Nat.strongRecOn with
 | ind j ih=>
  intro v hj hvl hv;by_cases hp:∃ p,p∈ns[v].ps∧p ∉ os
  ·obtain⟨p,hp1,hp2⟩:=hp;have:=hrk v _ (qac hvl) p hp1;exact ih (rk p) (by omega) p rfl (h.lt _ (qat hvl) p hp1) hp2
  refine⟨v,hvl,by rw[zeu]; simp[hv],fun i hi=>?_⟩;rw[show(zam ns).getD v 0=zcJ ns[v].ps by simp[zam,hvl],zeu]at hi;rw[zeu];have hi2:=of_decide_eq_true hi;refine decide_eq_true ?_;exact qbY fun hno=>hp ⟨i,hi2,hno⟩
theorem RightN.next{g:Nat}{ns:List NN}(h:RightN g ns){os:List Nat}(hl:os.length<ns.length):∃ v,First (zam ns) (zcJ os) v:=by
 obtain⟨rk,_,hrk⟩:=h.rk;by_cases hs:∀ x∈List.range ns.length,x∈os
 ·have:=zvA qcP hs;rw[List.length_range]at this;omega
 have:∃ x,x∈List.range ns.length∧x ∉ os:=qbY fun hno=>hs fun x hx=>qbY fun hx2=>hno ⟨x,hx,hx2⟩
 obtain⟨x,hx,hxo⟩:=this;obtain⟨u,hu,hr⟩:=h.ready os hrk _ x rfl (qbI.1 hx) hxo;exact zt5 u (by simpa [zam]using hu) hr
theorem ztd{ms:List Nat}{mask i:Nat}{β:Type}(hm:∀ m∈ms,m<18446744073709551616)(hk:mask<18446744073709551616)(hi:i<ms.length)(h64:i<64)(l:β):
  ∃ b:Bool,(b=true↔zlp ms mask i)∧((zhP .u64 (mask:Int) (i:Int)).bind fun q7=>bif ((zfz .u64 q7 1)== 0)then some (((zub .u64 ((ms[i]:Nat):Int) (mask:Int))== 0),l)else some (false,l))=some (b,l)∧
   ((zhP .u64 (mask:Int) (i:Int)).bind fun q7=>bif ((zfz .u64 q7 1)== 0)then some ((zub .u64 ((ms[i]:Nat):Int) (mask:Int))== 0)else some false)=some b:=by
 obtain⟨q,h1,h2⟩:=ztN (a:=mask) (v:=i) hk h64;have hmi:=hm _ (qat hi);have hg:ms.getD i 0=ms[i]:=by simp[hi]
 simp only[h1,qaa,h2,zxU];cases hb:mask.testBit i with
 | true=>exact⟨false,by simp[zlp,hb],rfl,rfl⟩
 | false=>
  refine⟨(((diff ms[i] mask:Nat):Int)== 0),?_,rfl,rfl⟩;rw[zlp,hb,hg,← zl1 hmi hk];simp
theorem zlr{ms os:List Nat}{mask C v:Nat}(hn:ms.length≤8)(hm:∀ m∈ms,m<18446744073709551616)(hk:mask<18446744073709551616)(hC:os.length+1≤C)(hv:First ms mask v):∀(n i:Nat),i≤v→v - i<n →
  zb7 (iL ms) (mask:Int) C n (i:Int) (iL os)=some (.brk (((mask ||| 2 ^ v:Nat):Int),iL (os ++ [v])))
 | 0,_,_,h=>absurd h (qap _)
 | n+1,i,h1,h3=>by
  unfold zb7;have hvl:=hv.lt;have hi:i<ms.length:=by omega
  obtain⟨b,hb,e,_⟩:=ztd hm hk hi (by omega) (iL os);rw[zao,zaz,decide_eq_true hi,cond_true,zbf hi,qaa,e,qaa];simp only[];by_cases hiv:i=v
  ·subst hiv;have hpw:2 ^ i<18446744073709551616:=qa7 (n:=64) (by decide) (by omega);rw[hb.2 hv.ready,cond_true];unfold zm9;rw[if_pos (by simp[zao]; omega),qaa,ztC (by omega),qaa,orU hk hpw];simp[iL]
  have:b=false:=by
   cases b with
   | false=>rfl
   | true=>exact absurd (hb.1 rfl) (hv.least i (by omega))
  rw[this,cond_false,zal (by omega),zlr hn hm hk hC hv n (i+1) (by omega) (by omega)]
theorem zlP{g:Nat}{ns:List NN}(h:RightN g ns):∀(n:Nat) (os:List Nat),ze8 (zam ns) os→os.length≤ns.length→ns.length - os.length<n →
  ∃ os',ze8 (zam ns) os'∧os'.length=ns.length∧zb6 (iL (zam ns)) ns.length n ((zcJ os:Nat):Int) (iL os)=some (.go (iL os'))
 | 0,_,_,_,h=>absurd h (qap _)
 | n+1,os,h1,h2,h3=>by
  unfold zb6;have hml:(zam ns).length=ns.length:=by simp[zam]
  have hn:=h.n2;rw[zao,zao,hml,zaz];by_cases hl:os.length<ns.length
  ·obtain⟨v,hv⟩:=h.next hl;have hvl:=hv.lt;have hk:zcJ os<18446744073709551616:=Go.Dc.zfT fun x hx=>by
    have:=h1.lt x hx;omega
   have e:=zlr (os:=os) (C:=ns.length) (by omega) h.zfT hk (by omega) hv (ns.length+2) 0 (qaC _) (by omega);rw[show((0:Nat):Int)=0 from rfl]at e;obtain⟨os',g1,g2,g3⟩:=zlP h n (os ++ [v]) (h1.app hv) (by simp; omega) (by simp; omega);refine⟨os',g1,g2,?_⟩;rw[decide_eq_true hl,cond_true,zaN,e,qaa];simp only[];rw[← ztP,g3]
  exact⟨os,h1,by omega,by rw[decide_eq_false hl,cond_false]⟩
theorem zs3{g:Nat}{ns:List NN}(h:RightN g ns):
  ∃ os,ze8 (zam ns) os∧os.length=ns.length∧zdh (iL (zam ns))=some (iL os,true):=by
 have hml:(zam ns).length=ns.length:=by simp[zam]
 have hn:=h.n2;obtain⟨os,g1,g2,g3⟩:=zlP h (ns.length+2) [] (fun k v hk=>by simp at hk) (qaC _) (by simp);refine⟨os,g1,g2,?_⟩;unfold zdh;rw[zao,hml];have hcap:zxY 8 ((ns.length:Nat):Int)=some ns.length:=by
  unfold zxY;rw[if_pos ⟨qbM _,by simp only[zai]; omega⟩,qaK]
 rw[hcap,qaa,show(((ns.length:Nat):Int) - ((([]:List Int).length:Nat):Int)+2).toNat=ns.length+2 by simp; omega];rw[show((zcJ []:Nat):Int)=0 from rfl,show iL []=[]from rfl]at g3;rw[g3,qaa]
theorem zsn{g:Nat}{ns:List NN}(h:RightN g ns):
  ∃ os,ze8 (zam ns) os∧os.length=ns.length∧zdy (zbQ g ns)=some (⟨zbQ g ns,iL (ns.map (·.c)),iL (zam ns),iL os⟩,0):=by
 obtain⟨os,g1,g2,g3⟩:=zs3 h;refine⟨os,g1,g2,?_⟩;have h1:=h.g1;have h2:=h.g2;have h3:=h.n1;have h4:=h.n2;have hl:(zbQ g ns).nodes.length=ns.length:=by simp[zbQ]
 have hp:=h.prod;have e1:=zqW (g:=g) (P:=zac (ns.map (·.c))) h.n2 h.zaD (by omega) (ns.length+2) [] ns 1 rfl (qba _) (by omega);have e2:=zsy h (ns.length+2) [] ns rfl (by omega);simp only[List.map_nil,qbr,qa2]at e1 e2;rw[show((0:Nat):Int)=0 from rfl]at e1 e2;rw[show((1:Nat):Int)=1 from rfl]at e1;have hz:List.replicate ns.length (0:Int)=iL (List.replicate ns.length 0):=by simp[iL]
 unfold zdy
 rw[hl,show(zbQ g ns).grain=(g:Int)from rfl,show decide ((g:Int)<1)=false from decide_eq_false (by omega),cond_false,show decide ((60:Int)<(g:Int))=false from decide_eq_false (by omega),cond_false,
  show decide (((ns.length:Nat):Int)<1)=false from decide_eq_false (by omega),cond_false,qaa,show decide ((8:Int)<((ns.length:Nat):Int))=false from decide_eq_false (by omega),cond_false,
  zdp (by omega),qaa,zaN,hz,e1,qaa]
 simp only[];rw[show decide ((1024:Int)<((zac (ns.map (·.c)):Nat):Int))=false from decide_eq_false (by omega),cond_false,e2,qaa];simp only[];rw[show(ns.map fun x=>zcJ x.ps)=zam ns from rfl,g3,qaa];simp only[];rw[cond_true]
inductive Reach (ms:List Nat):Nat→Nat→Prop
 | refl (i:Nat):Reach ms i i
 | step {s p i:Nat}:(ms.getD s 0).testBit p=true→Reach ms p i→Reach ms s i
structure GOk (ms:List Nat) (rk:Nat→Nat):Prop where
 len:ms.length≤8
 lt:∀ m∈ms,m<18446744073709551616
 down:∀ v p,(ms.getD v 0).testBit p=true→p<ms.length∧rk p<rk v
structure VOk (ms:List Nat) (set r0 r:Nat):Prop where
 lt:r<18446744073709551616
 zdr:Sub r0 r
 has:Sub set r
 clo:∀ i,r.testBit i=true→r0.testBit i=false→Sub (ms.getD i 0) r
 reach:∀ i,r.testBit i=true→r0.testBit i=true∨∃ s,set.testBit s=true∧Reach ms s i
theorem zo2{a v i:Nat}:(a ||| 2 ^ v).testBit i=(a.testBit i || decide (v=i)):=by
 rw[qbs,qbB]
theorem zgX{ms:List Nat}{rk:Nat→Nat}(hg:GOk ms rk){again:Int→Int→Option Int}{set r0:Nat}(hset:set<18446744073709551616)(hin:∀ s,set.testBit s=true→s<ms.length)
  (ha:∀(v:Nat) (r:Nat),set.testBit v=true→r<18446744073709551616→∃ r2:Nat,again ((ms.getD v 0:Nat):Int) (r:Int)=some (r2:Int)∧VOk ms (ms.getD v 0) r r2):∀(n v r:Nat),r<18446744073709551616→Sub r0 r →
  (∀ s,s<v→set.testBit s=true→r.testBit s=true)→(∀ i,r.testBit i=true→r0.testBit i=false→Sub (ms.getD i 0) r)→
  (∀ i,r.testBit i=true→r0.testBit i=true∨∃ s,set.testBit s=true∧Reach ms s i)→ms.length - v<n→v≤ms.length →
  ∃ r':Nat,zfK (iL ms) again (set:Int) n (v:Int) (r:Int)=some (r':Int)∧VOk ms set r0 r'
 | 0,_,_,_,_,_,_,_,h,_=>absurd h (qap _)
 | n+1,v,r,h1,h2,h3,h4,h5,h6,h7=>by
  have hlen:=hg.len;unfold zfK;rw[zao,zaz];by_cases hv:v<ms.length
  ·obtain⟨q,q1,q2⟩:=ztN (a:=diff set r) (v:=v) (zg3 _ _) (by omega);rw[decide_eq_true hv,cond_true,zxU,q1,qaa,q2,zfe hset h1];have hpw:2 ^ v<18446744073709551616:=qa7 (n:=64) (by decide) (by omega);by_cases hb:(set.testBit v && !r.testBit v)=true
   ·have hb1:set.testBit v=true∧r.testBit v=false:=by simpa using hb
    obtain⟨r2,e,hr2⟩:=ha v (r ||| 2 ^ v) hb1.1 (qbo (n:=64) h1 hpw);have hk:Sub r r2:=fun i hi=>hr2.zdr i (by rw[zo2,hi]; rfl)
    have hvr:r2.testBit v=true:=hr2.zdr v (by rw[zo2]; simp);obtain⟨r',f1,f2⟩:=zgX hg hset hin ha (r0:=r0) n (v+1) r2 hr2.lt (fun i hi=>hk i (h2 i hi))
     (fun s hs hss=>by
      by_cases hsv:s=v
      ·subst hsv; exact hvr
      exact hk s (h3 s (by omega) hss))
     (fun i hi hi0=>by
      by_cases hri:r.testBit i=true
      ·exact fun p hp=>hk p (h4 i hri hi0 p hp)
      by_cases hiv:v=i
      ·subst hiv; exact hr2.has
      exact hr2.clo i hi (by rw[zo2]; simp[hri,hiv]))
     (fun i hi=>by
      rcases hr2.reach i hi with h | ⟨s,hs,hr⟩
      ·rw[zo2]at h;rcases qce.1 h with h | h
       ·exact h5 i h
       have:=of_decide_eq_true h;subst this;exact .inr ⟨v,hb1.1,.refl v⟩
      exact .inr ⟨v,hb1.1,.step hs hr⟩) (by omega) hv
    refine⟨r',?_,f2⟩
    rw[hb,show((((true:Bool).toNat:Nat):Int)== 1)=true from rfl,cond_true,ztC (by omega),qaa,zbf hv,qaa,orU h1 hpw,
     show ms[v]=ms.getD v 0 by simp[hv],e,qaa,zal (by omega),f1]
   have hb':(set.testBit v && !r.testBit v)=false:=by simpa using hb
   obtain⟨r',f1,f2⟩:=zgX hg hset hin ha (r0:=r0) n (v+1) r h1 h2
    (fun s hs hss=>by
     by_cases hsv:s=v
     ·subst hsv;cases hr:r.testBit s with
      | true=>rfl
      | false=>rw[hss,hr]at hb'; cases hb'
     exact h3 s (by omega) hss) h4 h5 (by omega) hv
   refine⟨r',?_,f2⟩;rw[hb',show((((false:Bool).toNat:Nat):Int)== 1)=false from rfl,cond_false,zal (by omega),f1]
  refine⟨r,by rw[decide_eq_false hv,cond_false],h1,h2,fun s hs=>h3 s (by have:=hin s hs; omega) hs,h4,h5⟩
theorem zie{ms:List Nat}{rk:Nat→Nat}(hg:GOk ms rk):∀(N set r:Nat),set<18446744073709551616→r<18446744073709551616→1≤N→(∀ s,set.testBit s=true→s<ms.length∧rk s+2≤N)→
  ∃ r':Nat,zfQ (iL ms) N (set:Int) (r:Int)=some (r':Int)∧VOk ms set r r'
 | 0,_,_,_,_,h,_=>absurd h (by omega)
 | N+1,set,r,h1,h2,h3,h4=>by
  unfold zfQ;rw[zao]
  have:=zgX hg (again:=zfQ (iL ms) N) (set:=set) (r0:=r) h1 (fun s hs=>(h4 s hs).1) (fun v r1 hv hr1=>by
   have h5:=(h4 v hv);refine zie hg N (ms.getD v 0) r1 ?_ hr1 (by omega) fun p hp=>?_
   ·rw[show ms.getD v 0=ms[v]'h5.1 by simp[h5.1]];exact hg.lt _ (qat _)
   have:=hg.down v p hp
   exact⟨this.1,by omega⟩) (ms.length+2) 0 r h2 (fun i hi=>hi) (fun s hs=>absurd hs (qap _)) (fun i hi hi0=>by rw[hi]at hi0; cases hi0) (fun i hi=>.inl hi) (by omega) (qaC _)
  exact this
theorem zpa{ms:List Nat}{c s i:Nat}(h:Reach ms s i)(hs:c.testBit s=true)(hc:∀ i,c.testBit i=true→Sub (ms.getD i 0) c):c.testBit i=true:=by
 induction h with
 | refl i=>exact hs
 | step h1 h2 ih=>exact ih (hc _ hs _ h1)
theorem zpw{ms:List Nat}{rk:Nat→Nat}(hg:GOk ms rk)(hrk:∀ v,v<ms.length→rk v≤8){N set:Nat}(hN:10≤N)(h1:set<18446744073709551616)(h2:∀ s,set.testBit s=true→s<ms.length):
  ∃ r':Nat,zdt N (iL ms) (set:Int)=some (r':Int)∧r'<18446744073709551616∧∀ i,r'.testBit i=true↔∃ s,set.testBit s=true∧Reach ms s i:=by
 obtain⟨r',e,h⟩:=zie hg N set 0 h1 (by decide) (by omega) fun s hs=>⟨h2 s hs,by have:=hrk s (h2 s hs); omega⟩
 refine⟨r',e,h.lt,fun i=>⟨fun hi=>?_,fun⟨s,hs,hr⟩=>?_⟩⟩
 ·rcases h.reach i hi with h0 | h0
  ·simp at h0
  exact h0
 exact zpa hr (h.has s hs) fun j hj=>h.clo j hj (by simp)
theorem RightN.gok{g:Nat}{ns:List NN}(h:RightN g ns):∃ rk:Nat→Nat,GOk (zam ns) rk∧∀ v,rk v≤8:=by
 have hml:(zam ns).length=ns.length:=by simp[zam]
 have hn:=h.n2;obtain⟨rk,h1,h2⟩:=h.rk;refine⟨rk,⟨by omega,h.zfT,fun v p hp=>?_⟩,h1⟩;by_cases hv:v<ns.length
 ·rw[show(zam ns).getD v 0=zcJ ns[v].ps by simp[zam,hv],zeu]at hp;have hp:=of_decide_eq_true hp;exact⟨by rw[hml]; exact h.lt _ (qat hv) p hp,h2 v _ (qac hv) p hp⟩
 rw[show(zam ns).getD v 0=0 by simp[zam,hv]]at hp;simp at hp
theorem zvF{g:Nat}{ns:List NN}(h:RightN g ns){N set:Nat}(hN:10≤N)(h2:∀ s,set.testBit s=true→s<ns.length)(h1:set<2 ^ ns.length):
  ∃ r:Nat,zbF N (zbQ g ns) (set:Int)=some ((r:Int),0)∧r<18446744073709551616∧zdt N (iL (zam ns)) (set:Int)=some (r:Int)∧∀ i,r.testBit i=true↔∃ s,set.testBit s=true∧Reach (zam ns) s i:=by
 have hml:(zam ns).length=ns.length:=by simp[zam]
 have hn:=h.n2;obtain⟨rk,hg,hrk⟩:=h.gok;have h64:set<18446744073709551616:=qbq h1 (qbT (n:=2) (by decide) (show ns.length≤64 by omega));obtain⟨r,e,hr,hi⟩:=zpw hg (fun v _=>hrk v) hN h64 fun s hs=>by rw[hml]; exact h2 s hs
 obtain⟨os,_,_,e2⟩:=zsn h;refine⟨r,?_,hr,e,hi⟩;unfold zbF;rw[e2,qaa];simp only[]
 rw[show((0:Int)== 0)=true from rfl,cond_true,show(zbQ g ns).nodes.length=ns.length by simp[zbQ],zBg (by omega),qaa,
  show set >>> ns.length=0 by rw[qcl]; exact qbP h1,show(((0:Nat):Int)== 0)=true from rfl,cond_true,e,qaa]
theorem zn9{xs:List Nat}{i j y:Nat}(h:i<xs.length):(xs.set i y).getD j 0=if i=j then y else xs.getD j 0:=by
 simp only[qah,qc7];split
 ·rename_i hij;subst hij;simp[h]
 rfl
theorem zg5{xs:List Nat}(h:∀ m∈xs,m<18446744073709551616)(i:Nat):xs.getD i 0<18446744073709551616:=by
 by_cases hi:i<xs.length
 ·rw[show xs.getD i 0=xs[i] by simp[hi]]; exact h _ (qat hi)
 rw[show xs.getD i 0=0 by simp[hi]]; decide
theorem zlk{xs:List Nat}{i:Nat}(h:i<xs.length):za3 (iL xs) (i:Int)=some ((xs.getD i 0:Nat):Int):=by
 rw[zbf h]; simp[h]
theorem Reach.tr{ms:List Nat}{a b c:Nat}(h1:Reach ms a b)(h2:Reach ms b c):Reach ms a c:=by
 induction h1 with
 | refl=>exact h2
 | step e _ ih=>exact .step e (ih h2)
def iter(f:Nat→Nat)(v:Nat):Nat→Nat
 | 0=>v
 | k+1=>f (iter f v k)
def cnt(n s:Nat):Nat:=(List.range n).countP (s.testBit ·)
theorem zsv(n s:Nat):cnt n s≤n:=by
 have:=List.countP_le_length (p:=(s.testBit ·)) (l:=List.range n);rw[List.length_range]at this;exact this
theorem zmC{p q:Nat→Bool}:∀ {xs:List Nat},(∀ x∈xs,p x=true→q x=true)→(∃ x∈xs,p x=false∧q x=true)→xs.countP p<xs.countP q
 | [],_,h=>by obtain⟨x,hx,_⟩:=h; cases hx
 | y :: ys,h1,h2=>by
  have hle:ys.countP p≤ys.countP q:=List.countP_mono_left fun x hx=>h1 x (qaj _ hx)
  rw[List.countP_cons,List.countP_cons];obtain⟨x,hx,h3,h4⟩:=h2;rcases qaz.1 hx with rfl | hx
  ·simp only[h3,h4]; simp; omega
  have ih:=zmC (xs:=ys) (fun x hx=>h1 x (qaj _ hx)) ⟨x,hx,h3,h4⟩;cases hp:p y with
  | false=>simp only[qaM,if_false]; split<;>omega
  | true=>simp only[h1 y qao hp,if_true]; omega
theorem zpc{n s t:Nat}(h1:Sub s t)(h2:∃ x,x<n∧s.testBit x=false∧t.testBit x=true):cnt n s<cnt n t:=by
 obtain⟨x,h3,h4,h5⟩:=h2;exact zmC (fun x _ hx=>h1 x hx) ⟨x,qbI.2 h3,h4,h5⟩
theorem zxt{n s:Nat}(h:n≤cnt n s):∀ x,x<n→s.testBit x=true:=by
 intro x hx;have h1:cnt n s=(List.range n).length:=by rw[List.length_range]; exact Nat.le_antisymm (zsv n s) h
 exact List.countP_eq_length.1 h1 x (qbI.2 hx)
theorem zhe{n:Nat}(F:Nat→Nat)(h1:∀ s,Sub s (F s))(h2:∀ s,(∀ x,s.testBit x=true→x<n)→∀ x,(F s).testBit x=true→x<n):∀(k s:Nat),(∀ x,s.testBit x=true→x<n)→
  F (iter F s k)=iter F s k∨k≤cnt n (iter F s k)
 | 0,s,_=>.inr (qaC _)
 | k+1,s,h=>by
  have hin:∀ j,∀ x,(iter F s j).testBit x=true→x<n:=by
   intro j;induction j with
   | zero=>exact h
   | succ j ih=>exact h2 _ ih
  rcases zhe F h1 h2 k s h with h3 | h3
  ·exact .inl (by show F (F (iter F s k))=F (iter F s k); rw[h3,h3])
  by_cases he:F (iter F s k)=iter F s k
  ·exact .inl (by show F (F (iter F s k))=F (iter F s k); rw[he,he])
  refine .inr (qb5 h3 (zpc (h1 _) ?_));refine qbY fun hno=>he ?_
  apply qbU;intro i;cases hi:(iter F s k).testBit i with
  | true=>exact h1 _ i hi
  | false=>
   cases hf:(F (iter F s k)).testBit i with
   | false=>rfl
   | true=>exact absurd ⟨i,hin (k+1) i hf,hi,hf⟩ hno
def zws(m:Int):Int→List Int→Prop
 | _,[]=>True
 | lo,p :: r=>lo<p∧p<m∧zws m p r
theorem zws.of{m:Nat}:∀ {qs:List Nat} {lo:Int},qs.Pairwise (· < ·)→(∀ q∈qs,lo<(q:Int))→(∀ q∈qs,q<m)→zws m lo (iL qs)
 | [],lo,_,_,_=>trivial
 | q :: r,lo,h,h1,h2=>by
  obtain⟨h3,h4⟩:=qbf.1 h;show lo<(q:Int)∧(q:Int)<(m:Int)∧zws m (q:Int) (iL r);refine⟨h1 q qao,by have:=h2 q qao; omega,zws.of h4 (fun p hp=>by have:=h3 p hp; omega) fun p hp=>h2 p (qaj _ hp)⟩
structure BndX (k:Nat) (x:S_api_Node):Prop where
 par:x.parents.length≤k
 rows:x.rows.length≤k
 row:∀ r∈x.rows,r.length≤k
structure BndK (k:Nat) (d:S_api_Net):Prop where
 nodes:d.nodes.length≤k
 node:∀ x∈d.nodes,BndX k x
theorem BndX.mono{k m:Nat}{x:S_api_Node}(h:BndX k x)(hk:k≤m):BndX m x:=⟨qam h.par hk,qam h.rows hk,fun r hr=>qam (h.row r hr) hk⟩
theorem BndK.mono{k m:Nat}{d:S_api_Net}(h:BndK k d)(hk:k≤m):BndK m d:=⟨qam h.nodes hk,fun x hx=>(h.node x hx).mono hk⟩
theorem BndX.fit{x:S_api_Node}(h:BndX 1000 x):FitN x:=⟨by have:=h.par; simp only[zai]; omega,by have:=h.rows; simp only[zai]; omega,fun r hr=>by have:=h.row r hr; simp only[zai]; omega⟩
theorem BndK.set{k t:Nat}{g:Int}{d:S_api_Net}{y:S_api_Node}(h:BndK k d)(hy:BndX k y):BndK k ⟨g,d.nodes.set t y⟩:=
 ⟨by simpa using h.nodes,fun x hx=>by
  rcases qbX hx with hx | hx
  ·exact h.node x hx
  rw[hx]; exact hy⟩
theorem NetOk.bnd{num:List Nat}{g:Nat}{ns:List NN}(h:NetOk num g ns):BndK 100 (zbQ g ns):=by
 refine⟨by have:=h.n2; simp[zbQ]; omega,fun y hy=>?_⟩;obtain⟨x,hx,rfl⟩:=qaB.1 hy;obtain⟨v,hv,rfl⟩:=qcp.1 hx;obtain⟨j,hj,hjv⟩:=qcp.1 (h.perm.all v hv);have hn:=h.node j v ns[v] (by rw[qac hj,hjv]) (qac hv);have h3:=hn.par.len;have hc:=h.zaD ns[v] hx;have hm:zac (ns[v].ps.map fun p=>(ns.map (·.c)).getD p 0)≤64:=by
  refine qam (zhz (m:=4) (by omega) fun z hz=>?_) ?_
  ·obtain⟨p,hp,rfl⟩:=qaB.1 hz;by_cases hpl:p<ns.length
   ·have:=h.zaD ns[p] (qat hpl);simpa [hpl]using this.2
   simp[qah,show ns[p]? = none from qaN (by omega)]
  rw[qaA];exact qam (qbT (by decide) h3) (by decide)
 refine⟨by simp[nd,zao]; omega,by show(ns[v].rows.map iL).length≤100; rw[qaA,hn.rows.len]; omega,fun r hr=>?_⟩;obtain⟨zs,hz,rfl⟩:=qaB.1 (show r∈ns[v].rows.map iL from hr);rw[zao,(hn.rows.row zs hz).1]; omega
theorem zel(a b:List Nat):zac (a ++ b)=zac a * zac b:=by
 induction a with
 | nil=>simp[zac]
 | cons x a ih=>
  rw[qbe];show x * zac (a ++ b)=x * zac a * zac b;rw[ih,qa4]
theorem znH:∀(a b:List Nat) (j:Nat),0<zac b→j<zac a * zac b→dig (a ++ b) j=dig a (j / zac b)++ dig b (j % zac b)
 | [],b,j,_,h=>by
  have h:j<zac b:=by simpa [zac]using h
  simp[dig,qa6 h]
 | c :: a,b,j,hb,h=>by
  have ha:0<zac a:=by
   rcases qcD (zac a)with h0 | h0
   ·have:zac (c :: a)=c * zac a:=rfl;rw[this,h0]at h;simp at h
   exact h0
  rw[qbe];simp only[dig];rw[znH a b (j % zac (a ++ b)) hb (by rw[zel]; exact qbc _ (qcS ha hb)),zel,qbe];have e1:j / (zac a * zac b)=j / zac b / zac a:=by rw[qc4,qaR]
  have e2:j % (zac a * zac b) / zac b=j / zac b % zac a:=by rw[qaR,Nat.mod_mul_right_div_self]
  have e3:j % (zac a * zac b) % zac b=j % zac b:=Nat.mod_mod_of_dvd _ ⟨zac a,qaR _ _⟩;rw[e1,e2,e3]
def zx6(B c:Nat)(rows:List (List Nat))(j:Nat):Nat:=(rows.getD (j / (c * B)* B+j % B) []).getD (j / B % c) 0
theorem zsT{B c i x j:Nat}(hB:0<B)(hx:x<c)(h:(j / (c * B)* B+j % B)* c+j / B % c=i * c+x):j=(i / B * c+x)* B+i % B:=by
 have hc:0<c:=by omega
 have h1:j / B % c=x:=by
  have:=congrArg (· % c) h;rw[qbV,qbA,Nat.mod_mod,qbV (i * c),qbA,qa6 hx]at this;exact this
 have h2:j / (c * B)* B+j % B=i:=by
  have:(j / (c * B)* B+j % B)* c=i * c:=by omega
  exact Nat.eq_of_mul_eq_mul_right hc this
 have h3:i / B=j / (c * B):=by
  rw[← h2,qbV,qck _ _ hB,qbP (qbc _ hB),qaP]
 have h4:i % B=j % B:=by
  rw[← h2,qbV,qbA,Nat.mod_mod]
 rw[h3,h4,← h1];have e1:j / (c * B)=j / B / c:=by rw[qc4,qaR]
 rw[e1];have e2:=qb3 (j / B) c;have e3:=qb3 j B;rw[qaR c]at e2;rw[e2,qaR (j / B)];omega
theorem zAV{A B c i x:Nat}(hi:i<A * B)(hx:x<c):(i / B * c+x)* B+i % B<A * c * B:=by
 have hB:0<B:=by
  rcases qcD B with h | h
  ·subst h; simp at hi
  exact h
 have h1:i / B<A:=qbL (by rw[qaR]; exact hi);have h2:i % B<B:=qbc _ hB;have h3:i / B * c+x<A * c:=by
  have:=qar c (show i / B+1≤A from h1);rw[qaI,qba]at this;omega
 have h4:=qar B (show i / B * c+x+1≤A * c from h3);rw[qaI,qba]at h4;omega
theorem zx7{B c i x:Nat}(hB:0<B)(hx:x<c):((i / B * c+x)* B+i % B) / (c * B)* B+((i / B * c+x)* B+i % B) % B=i∧((i / B * c+x)* B+i % B) / B % c=x:=by
 have h2:i % B<B:=qbc _ hB;have e1:((i / B * c+x)* B+i % B) / B=i / B * c+x:=by rw[qbV,qck _ _ hB,qbP h2,qaP]
 have e2:((i / B * c+x)* B+i % B) % B=i % B:=by rw[qbV,qbA,Nat.mod_mod]
 have e3:(i / B * c+x) / c=i / B:=by rw[qbV,qck _ _ (by omega),qbP hx,qaP]
 have e4:(i / B * c+x) % c=x:=by rw[qbV,qbA,qa6 hx]
 refine⟨?_,by rw[e1,e4]⟩;rw[qaR c,← qc4,e1,e3,e2,qaR];exact qb3 i B
structure Fil (A B c:Nat) (rows:List (List Nat)) (k:Nat) (w:List Nat):Prop where
 len:w.length=A * c * B
 at_:∀ j,j<A * c * B→(j / (c * B)* B+j % B)* c+j / B % c<k→w.getD j 0=zx6 B c rows j
theorem Fil.step{A B c i x:Nat}{rows:List (List Nat)}{w:List Nat}(h:Fil A B c rows (i * c+x) w)(hB:0<B)(hi:i<A * B)(hx:x<c):
  Fil A B c rows (i * c+(x+1)) (w.set ((i / B * c+x)* B+i % B) ((rows.getD i []).getD x 0)):=by
 have hlt:=zAV (A:=A) hi hx;refine⟨by rw[qaH]; exact h.len,fun j hj hk=>?_⟩;by_cases e:(i / B * c+x)* B+i % B=j
 ·subst e;obtain⟨k1,k2⟩:=zx7 (i:=i) hB hx;unfold zx6;rw[k1,k2,qah,qaD (by rw[h.len]; exact hlt),qbd]
 rw[qah,qaq e,← qah];refine h.at_ j hj ?_;rcases qa3 ((j / (c * B)* B+j % B)* c+j / B % c) (i * c+x)with g | g
 ·exact g
 exact absurd (zsT hB hx (by omega)).symm e
theorem Fil.next{A B c i:Nat}{rows:List (List Nat)}{w:List Nat}(h:Fil A B c rows (i * c+c) w):Fil A B c rows ((i+1)* c+0) w:=by
 rw[qbt,qaI,qba]; exact h
theorem Fil.start(A B c:Nat)(rows:List (List Nat)):Fil A B c rows (0 * c+0) (List.replicate (A * c * B) 0):=
 ⟨by simp,fun j _ h=>absurd h (by omega)⟩
theorem Fil.all{A B c:Nat}{rows:List (List Nat)}{w:List Nat}(h:Fil A B c rows (A * B * c+0) w)(hB:0<B)(hc:0<c):w=(List.range' 0 (A * c * B)).map (zx6 B c rows):=by
 apply qb8
 ·simp[h.len]
 intro j h1 h2;have hj:j<A * c * B:=by rw[← h.len]; exact h1
 have hk:(j / (c * B)* B+j % B)* c+j / B % c<A * B * c+0:=by
  have g1:j / (c * B)<A:=qbL (by rw[qaR (c * B),← qa4]; exact hj);have g2:j % B<B:=qbc _ hB;have g3:j / B % c<c:=qbc _ hc;have g4:=qar B (show j / (c * B)+1≤A from g1);rw[qaI,qba]at g4;have g5:=qar c (show j / (c * B)* B+j % B+1≤A * B by omega);rw[qaI,qba]at g5;omega
 have:=h.at_ j hj hk;rw[qah,qac h1,qbd]at this;rw[this];simp
def upS(ms:List Nat)(s v:Nat):Nat:=if s.testBit v then s ||| ms.getD v 0 else s
def upR(ms:List Nat)(s:Nat):Nat:=(List.range ms.length).foldl (upS ms) s
def EOk(ms:List Nat):Prop:=∀ v p,(ms.getD v 0).testBit p=true→v<ms.length∧p<ms.length
theorem Sub.zzV{a:Nat}:Sub a a:=fun _ h=>h
theorem Sub.tr{a b c:Nat}(h1:Sub a b)(h2:Sub b c):Sub a c:=fun i h=>h2 i (h1 i h)
theorem Sub.zAP{a b:Nat}(h1:Sub a b)(h2:Sub b a):a=b:=by
 apply qbU;intro i;exact qb4.2 ⟨h1 i,h2 i⟩
theorem zs5(ms:List Nat)(s v:Nat):Sub s (upS ms s v):=by
 intro i hi;unfold upS;split
 ·rw[qbs,hi,Bool.true_or]
 exact hi
theorem zk4{f:Nat→Nat→Nat}(h:∀ s v,Sub s (f s v)):∀(vs:List Nat) (s:Nat),Sub s (vs.foldl f s)
 | [],s=>Sub.zzV
 | v :: vs,s=>(h s v).tr (zk4 h vs (f s v))
theorem zoH{f:Nat→Nat→Nat}(h:∀ s v,Sub s (f s v)):∀(vs:List Nat) (s:Nat),vs.foldl f s=s→∀ v∈vs,f s v=s
 | [],_,_,_,hv=>nomatch hv
 | v :: vs,s,he,u,hu=>by
  rw[qcq]at he;have h1:f s v=s:=Sub.zAP (by have:=zk4 h vs (f s v); rw[he]at this; exact this) (h s v);rw[h1]at he;rcases qaz.1 hu with rfl | hu
  ·exact h1
  exact zoH h vs s he u hu
theorem zkN{f:Nat→Nat→Nat}{P:Nat→Prop}(h:∀ s v,P s→P (f s v)):∀(vs:List Nat) (s:Nat),P s→P (vs.foldl f s)
 | [],_,h0=>h0
 | v :: vs,s,h0=>zkN h vs _ (h s v h0)
theorem zkd{f:Nat→Nat}{P:Nat→Prop}(h:∀ s,P s→P (f s))(s:Nat)(h0:P s):∀ k,P (iter f s k)
 | 0=>h0
 | k+1=>h _ (zkd h s h0 k)
theorem zoh{f:Nat→Nat}(h:∀ s,Sub s (f s))(s:Nat):∀ k,Sub s (iter f s k)
 | 0=>Sub.zzV
 | k+1=>(zoh h s k).tr (h _)
theorem zy6{ms:List Nat}(he:EOk ms){s:Nat}(hs:∀ x,s.testBit x=true→x<ms.length)(i:Nat):(iter (upR ms) s ms.length).testBit i=true↔∃ v,s.testBit v=true∧Reach ms v i:=by
 have hsub:∀ s,Sub s (upR ms s):=fun s=>zk4 (zs5 ms) _ s
 have hin:∀ s,(∀ x,s.testBit x=true→x<ms.length)→∀ x,(upR ms s).testBit x=true→x<ms.length:=fun s h=>zkN (P:=fun s=>∀ x,s.testBit x=true→x<ms.length) (fun s v h x hx=>by
  unfold upS at hx;split at hx
  ·rw[qbs]at hx;rcases qce.1 hx with hx | hx
   ·exact h x hx
   exact(he v x hx).2
  exact h x hx) _ s h
 have hfix:upR ms (iter (upR ms) s ms.length)=iter (upR ms) s ms.length:=by
  rcases zhe (n:=ms.length) (upR ms) hsub hin ms.length s hs with h | h
  ·exact h
  refine Sub.zAP (fun x hx=>?_) (hsub _);exact zxt h x (hin _ (zkd (P:=fun s=>∀ x,s.testBit x=true→x<ms.length) hin s hs _) x hx)
 have hclo:∀ v,(iter (upR ms) s ms.length).testBit v=true→Sub (ms.getD v 0) (iter (upR ms) s ms.length):=by
  intro v hv p hp;have h1:=zoH (zs5 ms) _ _ hfix v (qbI.2 (he v p hp).1);unfold upS at h1;rw[if_pos hv]at h1;rw[← h1,qbs,hp,qdl]
 constructor
 ·intro hi;refine zkd (f:=upR ms) (P:=fun t=>∀ i,t.testBit i=true→∃ v,s.testBit v=true∧Reach ms v i) (fun t ht=>?_) s (fun i hi=>⟨i,hi,.refl i⟩) ms.length i hi;refine zkN (P:=fun t=>∀ i,t.testBit i=true→∃ v,s.testBit v=true∧Reach ms v i) (fun t v ht i hi=>?_) _ t ht;unfold upS at hi;split at hi
  ·rename_i hv;rw[qbs]at hi;rcases qce.1 hi with hi | hi
   ·exact ht i hi
   obtain⟨u,h1,h2⟩:=ht v hv;exact⟨u,h1,h2.tr (.step hi (.refl i))⟩
  exact ht i hi
 rintro⟨v,h1,h2⟩;exact zpa h2 (zoh hsub s _ v h1) hclo
theorem zAE{v:Nat}(h:v<64):IntKind.u64.wrap (v:Int)=(v:Int):=zet (by omega)
theorem zzO{ms:List Nat}(hm:∀ m∈ms,m<18446744073709551616){s v:Nat}(hs:s<18446744073709551616):upS ms s v<18446744073709551616:=by
 unfold upS;split
 ·exact qbo (n:=64) hs (zg5 hm v)
 exact hs
theorem zqj(f:Nat→Nat)(s k:Nat):iter f s (k+1)=iter f (f s) k:=by
 induction k with
 | zero=>rfl
 | succ k ih=>show f (iter f s (k+1))=f (iter f (f s) k); rw[ih]
end Go.Dc
