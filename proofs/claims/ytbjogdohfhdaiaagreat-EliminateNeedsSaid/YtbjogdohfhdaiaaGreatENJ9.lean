/-
 Plain laws: a net that is right is read. Conditions: none.
-/
import Derived.Test.YtbjogdohfhdaiaaGreatENJ8
set_option linter.unusedSimpArgs false
set_option linter.unusedVariables false
namespace Go.Dc
open Go Go.Mx Go.Lx
def zbF(g:Nat)(ns:List NN):S_api_Net:=⟨(g:Int),ns.map nd⟩
theorem ztk{g P:Nat}{ns:List NN}(hn:ns.length<=8)(hc:∀ x∈ns,1<=x.c/\x.c<=4)(hP:P<=65536):∀(n:Nat) (xs ys:List NN) (a:Nat),xs ++ ys=ns->a * zab (ys.map (·.c))=P->ys.length<n ->
  zbC (zbF g ns) n (a:Int) (xs.length:Int) (iL (xs.map (·.c)++ List.replicate ys.length 0))=some (.go ((P:Int),iL (ns.map (·.c))))
 | 0,_,_,_,_,_,h=>absurd h (qak _)
 | n+1,xs,[],a,h1,h2,h3=>by
  unfold zbC;rw[qaQ]at h1;subst h1;have:a=P:=by rw[<- h2]; simp[zab]
  subst this;rw[show(zbF g xs).nodes.length=xs.length by simp[zbF],zam,qdC (by omega),qdA];simp
 | n+1,xs,y :: ys,a,h1,h2,h3=>by
  unfold zbC;have hl:(zbF g ns).nodes.length=ns.length:=by simp[zbF]
  have hxn:xs.length<ns.length:=by rw[<- h1]; simp
  have hy:ns[xs.length]=y:=by subst h1; simp
  have hyc:=hc y (by rw[<- h1]; simp);have e2:a * y.c * zab (ys.map (·.c))=P:=by rw[<- h2]; exact qbd _ _ _
  have hq:1<=zab (ys.map (·.c)):=zdQ λc hcm=>by
   obtain⟨z,hz,rfl⟩:=qaz.1 hcm;exact(hc z (by rw[<- h1]; simp[hz])).1
  have hle:a * y.c<=P:=by rw[<- e2]; exact qa6 _ hq
  have ih:=ztk hn hc hP (g:=g) n (xs ++ [y]) ys (a * y.c) (by rw[<- h1]; simp) e2 (by simp at h3; omega)
  rw[hl,zam,qdB hxn,qdz,show zaz (zbF g ns).nodes (xs.length:Int)=some (nd y) by rw[<- hy]; exact zcX hxn,qaa,
   show(nd y).zap=(y.c:Int)from rfl,show decide ((y.c:Int)<1)=false from qdC (by omega),qdA,qaa,show decide ((4:Int)<(y.c:Int))=false from qdC (by omega),qdA]
  have hxl:((xs.length:Nat):Int)=(((xs.map (·.c)).length:Nat):Int):=by simp
  rw[qaP,qa1,hxl,zdK,qaa,zgc,qaa,<- qbo,zaJ (by omega),zah (by simp; omega),<- ih];simp
theorem ztE{g v:Nat}{ns:List NN}{x:S_api_Node}{ps xs ys:List Nat}(hx:x.parents=iL ps)(hn:ns.length<=8)(hv:xs.length=v)(hp:∀ p∈ps,p<ns.length/\p≠v)(hinc:ps.Pairwise (· < ·)):∀(n i:Nat) (m:Nat) (lo:Int),i<=ps.length->m<18446744073709551616 ->
  (∀ p∈ps.drop i,lo<(p:Int))->ps.length - i<n ->
  zb9 x (zbF g ns) (v:Int) n lo (i:Int) (iL (xs ++ m :: ys))=some (.go (iL (xs ++ ((ps.drop i).foldl (λm p=>m ||| 2 ^ p) m):: ys)))
 | 0,_,_,_,_,_,_,h=>absurd h (qak _)
 | n+1,i,m,lo,h1,h2,h4,h3=>by
  have hps:ps.length<=9223372036854775806\/True:=.inr trivial;unfold zb9;have hl:(zbF g ns).nodes.length=ns.length:=by simp[zbF]
  rw[hx,zak,hl];by_cases hi:i<ps.length
  .have hd:ps.drop i=ps[i]:: ps.drop (i+1):=qas hi;obtain⟨hp1,hp2⟩:=hp _ (qao hi);have hlo:=h4 ps[i] (by rw[hd]; exact qam);have hsm:i<=ps[i]:=by
    have:∀(j:Nat) (hj:j<ps.length),j<=ps[j]:=by
     intro j;induction j with
     | zero=>intro hj; exact qau _
     | succ j ih=>
      intro hj;have h6:=ih (by omega);have h7:=qbn.1 hinc j (j+1) (by omega) hj (by omega);omega
    exact this i hi
   have hgt:∀ p∈ps.drop (i+1),((ps[i]:Nat):Int)<(p:Int):=by
    intro p hp;obtain⟨k,hk,rfl⟩:=qbY.1 hp;rw[List.getElem_drop];have:=qbn.1 hinc i (i+1+k) hi (by simp at hk; omega) (by omega);omega
   have hpw:2 ^ ps[i]<18446744073709551616:=qa0 (n:=64) (by decide) (by omega);have hm:m ||| 2 ^ ps[i]<18446744073709551616:=qbc (n:=64) h2 hpw;have ih:=ztE (g:=g) (ys:=ys) hx hn hv hp hinc n (i+1) (m ||| 2 ^ ps[i]) (ps[i]:Int) hi hm hgt (by omega)
   rw[zam,qdB hi,qdz,zbf hi,qaa,show decide (((ps[i]:Nat):Int)<=lo)=false from qdC (by omega),qdA,
    show decide (((ns.length:Nat):Int)<=((ps[i]:Nat):Int))=false from qdC (by omega),qdA,qaa,show(((ps[i]:Nat):Int)==(v:Int))=false by simp; omega,qdA,
    <- hv,zdK,qaa,zoy (by omega),qaa,orU h2 hpw,zgc,qaa,zah (by omega),hv,ih,hd,qb4]
  rw[zam,qdC hi,qdA,qaY (by omega)];rfl
structure RightN (g:Nat) (ns:List NN):Prop where
 g1:1<=g
 g2:g<=60
 n1:1<=ns.length
 n2:ns.length<=8
 zap:∀ x∈ns,1<=x.c/\x.c<=4
 prod:zab (ns.map (·.c))<=1024
 inc:∀ x∈ns,x.ps.Pairwise (· < ·)
 lt:∀ x∈ns,∀ p∈x.ps,p<ns.length
 rows:∀ x∈ns,RowsOk g x.c (zab (x.ps.map λp=>(ns.map (·.c)).getD p 0)) x.rows
 rk:∃ rk:Nat->Nat,(∀ v,rk v<=8)/\∀ v x,ns[v]? = some x->∀ p∈x.ps,rk p<rk v
variable{n:Nat}
theorem zhJ{ps:List Nat}(h:ps.Pairwise (· < ·))(hp:∀ p∈ps,p<n):ps.length<=n:=by
 have:∀(j:Nat) (hj:j<ps.length),j<=ps[j]:=by
  intro j;induction j with
  | zero=>intro hj; exact qau _
  | succ j ih=>
   intro hj;have h6:=ih (by omega);have h7:=qbn.1 h j (j+1) (by omega) hj (by omega);omega
 cases hl:ps.length with
 | zero=>exact qau _
 | succ m=>
  have h1:=this m (by omega);have h2:=hp _ (qao (show m<ps.length by omega));omega
variable{g:Nat}{ns:List NN}
theorem RightN.zB9(h:RightN g ns){x:NN}(hx:x∈ns):x.ps.length<=8:=by
 have:=zhJ (h.inc x hx) (h.lt x hx);have:=h.n2;omega
variable{v:Nat}
theorem RightN.ne(h:RightN g ns){x:NN}(hx:ns[v]? = some x):∀ p∈x.ps,p≠v:=by
 obtain⟨rk,_,h2⟩:=h.rk;intro p hp he;subst he;exact qcw _ (h2 p x hx p hp)
theorem RightN.zBK(h:RightN g ns){x:NN}(hx:x∈ns):∀ p∈x.ps,1<=(ns.map (·.c)).getD p 0/\(ns.map (·.c)).getD p 0<=4:=by
 intro p hp;have hp1:=h.lt x hx p hp;have:=h.zap ns[p] (qao hp1);simpa [hp1]using this
theorem RightN.zDj(h:RightN g ns){x:NN}(hx:x∈ns):zab (x.ps.map λp=>(ns.map (·.c)).getD p 0)<=65536:=by
 refine qaq (zhz (m:=4) (by omega) λy hy=>?_) ?_
 .obtain⟨p,hp,rfl⟩:=qaz.1 hy;exact(h.zBK hx p hp).2
 rw[qay];exact qaq (qbV (by decide) (h.zB9 hx)) (by decide)
theorem zuE{g:Nat}{ns:List NN}(h:RightN g ns):∀(n:Nat) (xs ys:List NN),xs ++ ys=ns->ys.length<n ->
  zbB (zbF g ns) (iL (ns.map (·.c))) n (xs.length:Int) (iL (xs.map (λx=>zbi x.ps)++ List.replicate ys.length 0))=some (.go (iL (ns.map λx=>zbi x.ps)))
 | 0,_,_,_,h=>absurd h (qak _)
 | n+1,xs,[],h1,h3=>by
  unfold zbB;rw[qaQ]at h1;subst h1;rw[show(zbF g xs).nodes.length=xs.length by simp[zbF],zam,qdC (by omega),qdA];simp
 | n+1,xs,y :: ys,h1,h3=>by
  unfold zbB;have hl:(zbF g ns).nodes.length=ns.length:=by simp[zbF]
  have hxn:xs.length<ns.length:=by rw[<- h1]; simp
  have hn:=h.n2;have hy:ns[xs.length]=y:=by subst h1; simp
  have hyg:ns[xs.length]? = some y:=by rw[qac hxn,hy]
  have hym:y∈ns:=qaC hyg;have hcl:(ns.map (·.c)).length=ns.length:=by simp
  have hlt:∀ p∈y.ps,p<ns.length/\p≠xs.length:=λp hp=>⟨h.lt y hym p hp,h.ne hyg p hp⟩
  have hcs:=h.zBK hym;have hpl:=h.zB9 hym;have hprod:=h.zDj hym;have hyc:=h.zap y (by rw[<- h1]; simp);have ih:=zuE h n (xs ++ [y]) ys (by rw[<- h1]; simp) (by simp at h3; omega);have e3:=ztE (g:=g) (ns:=ns) (x:=nd y) (xs:=xs.map λx=>zbi x.ps) (ys:=List.replicate ys.length 0) (v:=xs.length) rfl hn (by simp) hlt (h.inc y hym) (y.ps.length+2) 0 0 (-1) (qau _) (by decide) (λp hp=>by omega) (by omega);rw[show((0:Nat):Int)=0 from rfl,qa9]at e3;have e4:=zvv (g:=g) (cs:=ns.map (·.c)) (nodes:=ns.map nd) (sets:=iL (xs.map (λx=>zbi x.ps)++ zbi y.ps :: List.replicate ys.length 0)) (order:=[]) (x:=y) h.g2 (by rw[hcl]; exact λp hp=>(hlt p hp).1) (by omega) (λp hp=>(hcs p hp).1) (by omega) hprod (h.rows y hym)
  rw[hl,zam,qdB hxn,qdz,show zaz (zbF g ns).nodes (xs.length:Int)=some (nd y) by rw[<- hy]; exact zcX hxn,qaa,qaP,qa1,
   show(nd y).parents.length=y.ps.length by simp[nd,zak],zaq,e3,qaa]
  simp only[];rw[show(y.ps.foldl (λm p=>m ||| 2 ^ p) 0)=zbi y.ps from rfl];rw[show zbF g ns=⟨(g:Int),ns.map nd⟩from rfl]at ih ⊢;rw[e4,qaa,qdz,zah (by omega),<- ih];simp
def zh0(ms:List Nat)(mask v:Nat):Prop:=mask.testBit v=false/\Sub (ms.getD v 0) mask
structure First (ms:List Nat) (mask v:Nat):Prop where
 lt:v<ms.length
 ready:zh0 ms mask v
 least:∀ u,u<v->¬ zh0 ms mask u
def zdq(ms os:List Nat):Prop:=∀ k v,os[k]? = some v->First ms (zbi (os.take k)) v
variable{os:List Nat}
theorem zdq.app{ms:List Nat}(h:zdq ms os)(hv:First ms (zbi os) v):zdq ms (os ++ [v]):=by
 intro k u hk;by_cases hl:k<os.length
 .rw[qan hl]at hk;rw[qcL (by omega)];exact h k u hk
 have hk2:k=os.length:=by
  have:=(qab.1 hk).1;simp at this;omega
 subst hk2;have hu:u=v:=by simpa using hk.symm
 subst hu;simpa using hv
theorem zdq.nod{ms:List Nat}(h:zdq ms os):os.Nodup:=by
 rw[List.Nodup,qbn];intro i j hi hj hij he;have h1:=(h j os[j] (qac hj)).ready.1;rw[zcp]at h1;have:os[j]∈os.take j:=by
  rw[<- he];exact List.mem_take_iff_getElem.2 ⟨i,by omega,rfl⟩
 simp[this]at h1
theorem zdq.lt{ms os:List Nat}(h:zdq ms os):∀ x∈os,x<ms.length:=by
 intro x hx;obtain⟨k,hk⟩:=qbU hx;exact(h k x hk).lt
theorem zng:∀ {xs ys:List Nat},xs.Nodup->(∀ x∈xs,x∈ys)->xs.length<=ys.length
 | [],_,_,_=>qau _
 | x :: xs,ys,h,hs=>by
  obtain⟨h1,h2⟩:=qbs.1 h;have hx:=hs x qam;have ih:=zng (xs:=xs) (ys:=ys.erase x) h2 λy hy=>(List.mem_erase_of_ne (λq:y=x=>h1 (by rw[<- q]; exact hy))).2 (hs y (qai _ hy))
  rw[List.length_erase_of_mem hx]at ih;have:=List.length_pos_of_mem hx;simp only[qaP];omega
theorem zq2{ms:List Nat}{mask:Nat}:∀ v,v<ms.length->zh0 ms mask v->∃ u,First ms mask u:=by
 intro v;induction v using Nat.strongRecOn with
 | ind v ih=>
  intro hv hr;by_cases h:∃ u,u<v/\zh0 ms mask u
  .obtain⟨u,hu,hur⟩:=h;exact ih u hu (by omega) hur
  exact⟨v,hv,hr,λu hu hur=>h ⟨u,hu,hur⟩⟩
def zai(ns:List NN):List Nat:=ns.map λx=>zbi x.ps
theorem RightN.zdX{g:Nat}{ns:List NN}(h:RightN g ns):∀ m∈zai ns,m<18446744073709551616:=by
 intro m hm;obtain⟨x,hx,rfl⟩:=qaz.1 hm;refine Go.Dc.zdX λp hp=>?_
 have:=h.lt x hx p hp;have:=h.n2;omega
variable{rk:Nat->Nat}
theorem RightN.ready(h:RightN g ns)(os:List Nat)(hrk:∀ v x,ns[v]? = some x->∀ p∈x.ps,rk p<rk v):∀(j v:Nat),rk v=j->v<ns.length->v ∉ os->∃ u,u<ns.length/\zh0 (zai ns) (zbi os) u:=by
 intro j;induction j using Nat.strongRecOn with
 | ind j ih=>
  intro v hj hvl hv;by_cases hp:∃ p,p∈ns[v].ps/\p ∉ os
  .obtain⟨p,hp1,hp2⟩:=hp;have:=hrk v _ (qac hvl) p hp1;exact ih (rk p) (by omega) p rfl (h.lt _ (qao hvl) p hp1) hp2
  refine⟨v,hvl,by rw[zcp]; simp[hv],λi hi=>?_⟩;rw[show(zai ns).getD v 0=zbi ns[v].ps by simp[zai,hvl],zcp]at hi;rw[zcp];have hi2:=qdG hi;refine qdB ?_;exact qaT λhno=>hp ⟨i,hi2,hno⟩
theorem RightN.next(h:RightN g ns)(hl:os.length<ns.length):∃ v,First (zai ns) (zbi os) v:=by
 obtain⟨rk,_,hrk⟩:=h.rk;by_cases hs:∀ x∈List.range ns.length,x∈os
 .have:=zng qcP hs;rw[qc3]at this;omega
 have:∃ x,x∈List.range ns.length/\x ∉ os:=qaT λhno=>hs λx hx=>qaT λhx2=>hno ⟨x,hx,hx2⟩
 obtain⟨x,hx,hxo⟩:=this;obtain⟨u,hu,hr⟩:=h.ready os hrk _ x rfl (qbi.1 hx) hxo;exact zq2 u (by simpa [zai]using hu) hr
variable{i:Nat}
theorem znY{ms:List Nat}{mask:Nat}{β:Type}(hm:∀ m∈ms,m<18446744073709551616)(hk:mask<18446744073709551616)(hi:i<ms.length)(h64:i<64)(l:β):
  ∃ b:Bool,(b=true↔zh0 ms mask i)/\((zl6 .u64 (mask:Int) (i:Int)).bind λq7=>bif ((zkd .u64 q7 1)== 0)then some (((zyt .u64 ((ms[i]:Nat):Int) (mask:Int))== 0),l)else some (false,l))=some (b,l)/\
   ((zl6 .u64 (mask:Int) (i:Int)).bind λq7=>bif ((zkd .u64 q7 1)== 0)then some ((zyt .u64 ((ms[i]:Nat):Int) (mask:Int))== 0)else some false)=some b:=by
 obtain⟨q,h1,h2⟩:=zzM (a:=mask) (v:=i) hk h64;have hmi:=hm _ (qao hi);have hg:ms.getD i 0=ms[i]:=by simp[hi]
 simp only[h1,qaa,h2,zCD];cases hb:mask.testBit i with
 | true=>exact⟨false,by simp[zh0,hb],rfl,rfl⟩
 | false=>
  refine⟨(((diff ms[i] mask:Nat):Int)== 0),?_,rfl,rfl⟩;rw[zh0,hb,hg,<- ztX hmi hk];simp
theorem zi4{ms os:List Nat}{mask C v:Nat}(hn:ms.length<=8)(hm:∀ m∈ms,m<18446744073709551616)(hk:mask<18446744073709551616)(hC:os.length+1<=C)(hv:First ms mask v):∀(n i:Nat),i<=v->v - i<n ->
  zbg (iL ms) (mask:Int) C n (i:Int) (iL os)=some (.brk (((mask ||| 2 ^ v:Nat):Int),iL (os ++ [v])))
 | 0,_,_,h=>absurd h (qak _)
 | n+1,i,h1,h3=>by
  unfold zbg;have hvl:=hv.lt;have hi:i<ms.length:=by omega
  obtain⟨b,hb,e,_⟩:=znY hm hk hi (by omega) (iL os);rw[zak,zam,qdB hi,qdz,zbf hi,qaa,e,qaa];simp only[];by_cases hiv:i=v
  .subst hiv;have hpw:2 ^ i<18446744073709551616:=qa0 (n:=64) (by decide) (by omega);rw[hb.2 hv.ready,qdz];unfold zoV;rw[if_pos (by simp[zak]; omega),qaa,zoy (by omega),qaa,orU hk hpw];simp[iL]
  have:b=false:=by
   cases b with
   | false=>rfl
   | true=>exact absurd (hb.1 rfl) (hv.least i (by omega))
  rw[this,qdA,zah (by omega),zi4 hn hm hk hC hv n (i+1) (by omega) (by omega)]
theorem zn3{g:Nat}{ns:List NN}(h:RightN g ns):∀(n:Nat) (os:List Nat),zdq (zai ns) os->os.length<=ns.length->ns.length - os.length<n ->
  ∃ os',zdq (zai ns) os'/\os'.length=ns.length/\zbr (iL (zai ns)) ns.length n ((zbi os:Nat):Int) (iL os)=some (.go (iL os'))
 | 0,_,_,_,h=>absurd h (qak _)
 | n+1,os,h1,h2,h3=>by
  unfold zbr;have hml:(zai ns).length=ns.length:=by simp[zai]
  have hn:=h.n2;rw[zak,zak,hml,zam];by_cases hl:os.length<ns.length
  .obtain⟨v,hv⟩:=h.next hl;have hvl:=hv.lt;have hk:zbi os<18446744073709551616:=Go.Dc.zdX λx hx=>by
    have:=h1.lt x hx;omega
   have e:=zi4 (os:=os) (C:=ns.length) (by omega) h.zdX hk (by omega) hv (ns.length+2) 0 (qau _) (by omega);rw[show((0:Nat):Int)=0 from rfl]at e;obtain⟨os',g1,g2,g3⟩:=zn3 h n (os ++ [v]) (h1.app hv) (by simp; omega) (by simp; omega);refine⟨os',g1,g2,?_⟩;rw[qdB hl,qdz,zaq,e,qaa];simp only[];rw[<- zqM,g3]
  exact⟨os,h1,by omega,by rw[qdC hl,qdA]⟩
theorem zvl(h:RightN g ns):
  ∃ os,zdq (zai ns) os/\os.length=ns.length/\zb7 (iL (zai ns))=some (iL os,true):=by
 have hml:(zai ns).length=ns.length:=by simp[zai]
 have hn:=h.n2;obtain⟨os,g1,g2,g3⟩:=zn3 h (ns.length+2) [] (λk v hk=>by simp at hk) (qau _) (by simp);refine⟨os,g1,g2,?_⟩;unfold zb7;rw[zak,hml];have hcap:zxJ 8 ((ns.length:Nat):Int)=some ns.length:=by
  unfold zxJ;rw[if_pos ⟨qbL _,by simp only[zac]; omega⟩,qaG]
 rw[hcap,qaa,show(((ns.length:Nat):Int) - ((([]:List Int).length:Nat):Int)+2).toNat=ns.length+2 by simp; omega];rw[show((zbi []:Nat):Int)=0 from rfl,show iL []=[]from rfl]at g3;rw[g3,qaa]
theorem zzR(h:RightN g ns):
  ∃ os,zdq (zai ns) os/\os.length=ns.length/\zc2 (zbF g ns)=some (⟨zbF g ns,iL (ns.map (·.c)),iL (zai ns),iL os⟩,0):=by
 obtain⟨os,g1,g2,g3⟩:=zvl h;refine⟨os,g1,g2,?_⟩;have h1:=h.g1;have h2:=h.g2;have h3:=h.n1;have h4:=h.n2;have hl:(zbF g ns).nodes.length=ns.length:=by simp[zbF]
 have hp:=h.prod;have e1:=ztk (g:=g) (P:=zab (ns.map (·.c))) h.n2 h.zap (by omega) (ns.length+2) [] ns 1 rfl (qbl _) (by omega);have e2:=zuE h (ns.length+2) [] ns rfl (by omega);simp only[qb9,qbe,qa7]at e1 e2;rw[show((0:Nat):Int)=0 from rfl]at e1 e2;rw[show((1:Nat):Int)=1 from rfl]at e1;have hz:List.replicate ns.length (0:Int)=iL (List.replicate ns.length 0):=by simp[iL]
 unfold zc2
 rw[hl,show(zbF g ns).grain=(g:Int)from rfl,show decide ((g:Int)<1)=false from qdC (by omega),qdA,show decide ((60:Int)<(g:Int))=false from qdC (by omega),qdA,
  show decide (((ns.length:Nat):Int)<1)=false from qdC (by omega),qdA,qaa,show decide ((8:Int)<((ns.length:Nat):Int))=false from qdC (by omega),qdA,
  zdh (by omega),qaa,zaq,hz,e1,qaa]
 simp only[];rw[show decide ((1024:Int)<((zab (ns.map (·.c)):Nat):Int))=false from qdC (by omega),qdA,e2,qaa];simp only[];rw[show(ns.map λx=>zbi x.ps)=zai ns from rfl,g3,qaa];simp only[];rw[qdz]
inductive Reach (ms:List Nat):Nat->Nat->Prop
 | refl (i:Nat):Reach ms i i
 | step {s p i:Nat}:(ms.getD s 0).testBit p=true->Reach ms p i->Reach ms s i
structure GOk (ms:List Nat) (rk:Nat->Nat):Prop where
 len:ms.length<=8
 lt:∀ m∈ms,m<18446744073709551616
 down:∀ v p,(ms.getD v 0).testBit p=true->p<ms.length/\rk p<rk v
variable{a:Nat}
theorem zAw:(a ||| 2 ^ v).testBit i=(a.testBit i || decide (v=i)):=by
 rw[qbj,qbf]
variable{c s:Nat}
theorem zwd{ms:List Nat}{i:Nat}(h:Reach ms s i)(hs:c.testBit s=true)(hc:∀ i,c.testBit i=true->Sub (ms.getD i 0) c):c.testBit i=true:=by
 induction h with
 | refl i=>exact hs
 | step h1 h2 ih=>exact ih (hc _ hs _ h1)
theorem RightN.gok(h:RightN g ns):∃ rk:Nat->Nat,GOk (zai ns) rk/\∀ v,rk v<=8:=by
 have hml:(zai ns).length=ns.length:=by simp[zai]
 have hn:=h.n2;obtain⟨rk,h1,h2⟩:=h.rk;refine⟨rk,⟨by omega,h.zdX,λv p hp=>?_⟩,h1⟩;by_cases hv:v<ns.length
 .rw[show(zai ns).getD v 0=zbi ns[v].ps by simp[zai,hv],zcp]at hp;have hp:=qdG hp;exact⟨by rw[hml]; exact h.lt _ (qao hv) p hp,h2 v _ (qac hv) p hp⟩
 rw[show(zai ns).getD v 0=0 by simp[zai,hv]]at hp;simp at hp
variable{xs:List Nat}
theorem ziw{j y:Nat}(h:i<xs.length):(xs.set i y).getD j 0=if i=j then y else xs.getD j 0:=by
 simp only[qae,qcZ];split
 .rename_i hij;subst hij;simp[h]
 rfl
theorem zcy{xs:List Nat}(h:∀ m∈xs,m<18446744073709551616)(i:Nat):xs.getD i 0<18446744073709551616:=by
 by_cases hi:i<xs.length
 .rw[show xs.getD i 0=xs[i] by simp[hi]]; exact h _ (qao hi)
 rw[show xs.getD i 0=0 by simp[hi]]; decide
theorem zet(h:i<xs.length):zaz (iL xs) (i:Int)=some ((xs.getD i 0:Nat):Int):=by
 rw[zbf h]; simp[h]
theorem Reach.tr{ms:List Nat}{b:Nat}(h1:Reach ms a b)(h2:Reach ms b c):Reach ms a c:=by
 induction h1 with
 | refl=>exact h2
 | step e _ ih=>exact .step e (ih h2)
def zsd(ms:List Nat)(v:Nat):Nat:=ms.getD v 0 ||| 2 ^ v
structure MoralOk (ms ds:List Nat):Prop where
 len:ds.length=ms.length
 lt:∀ d∈ds,d<18446744073709551616
 bit:∀ i j,i<ms.length->((ds.getD i 0).testBit j=true↔i≠j/\∃ u,u<ms.length/\(zsd ms u).testBit i=true/\(zsd ms u).testBit j=true)
theorem zzz{os:List Nat}(hd:os.Nodup)(hl:os.length=n)(hlt:∀ x∈os,x<n):∀ v,v<n->v∈os:=by
 intro v hv;refine qaT λhno=>?_
 have:=zng (xs:=v :: os) (ys:=List.range n) (qbs.2 ⟨hno,hd⟩) λy hy=>by
  rcases qax.1 hy with rfl | hy
  .exact qbi.2 hv
  exact qbi.2 (hlt y hy)
 rw[qc3,qaP]at this;omega
theorem zdq.zDC{ms:List Nat}(h:zdq ms os)(hl:os.length=ms.length):∀ v p,v<ms.length->(ms.getD v 0).testBit p=true->os.idxOf p<os.idxOf v:=by
 intro v p hv hp;have hmem:=zzz h.nod hl h.lt v hv;have hlt:=List.idxOf_lt_length_iff.2 hmem;have hget:os[os.idxOf v]? = some v:=by rw[qac hlt]; simp
 have h1:=(h _ v hget).ready.2 p hp;rw[zcp]at h1;obtain⟨j,hj,hjp⟩:=List.mem_take_iff_getElem.1 (qdG h1);have hjl:j<os.length:=by omega
 have hpm:p∈os:=by rw[<- hjp]; exact qao _
 have hpl:=List.idxOf_lt_length_iff.2 hpm;have:os.idxOf p=j:=by
  have hd:=h.nod;refine qaT λhne=>?_
  exact ztf hd (i:=os.idxOf p) (j:=j) (v:=p) (w:=p) (by rw[qac hpl]; simp) (by rw[qac hjl,hjp]) hne rfl
 omega
def iter(f:Nat->Nat)(v:Nat):Nat->Nat
 | 0=>v
 | k+1=>f (iter f v k)
theorem zB0(s:Nat->Nat)(h:∀ k,s k<n):∃ i j,i<j/\s i=s j:=by
 refine qaT λhno=>?_
 have hd:((List.range (n+1)).map s).Nodup:=by
  rw[List.Nodup,qbn];intro i j hi hj hij he;simp only[qcO,List.getElem_range]at he;exact hno ⟨i,j,hij,he⟩
 have:=zng hd (ys:=List.range n) λx hx=>by
  obtain⟨k,_,rfl⟩:=qaz.1 hx;exact qbi.2 (h k)
 simp at this;omega
theorem zoh{ms:List Nat}(hb:∀ v p,(ms.getD v 0).testBit p=true->p<ms.length)(hl:os.length<ms.length)(hd:os.Nodup)(hno:∀ v,v<ms.length->¬ zh0 ms (zbi os) v):
  ∃ v p,v<ms.length/\(ms.getD v 0).testBit p=true/\Reach ms p v:=by
 have hf:∀ v,∃ p,v<ms.length->v ∉ os->(ms.getD v 0).testBit p=true/\p<ms.length/\p ∉ os:=by
  intro v;by_cases hv:v<ms.length/\v ∉ os
  .have h1:¬ Sub (ms.getD v 0) (zbi os):=λhs=>hno v hv.1 ⟨by rw[zcp]; simp[hv.2],hs⟩
   have:∃ p,(ms.getD v 0).testBit p=true/\(zbi os).testBit p≠true:=qaT λhn=>h1 λi hi=>qaT λhi2=>hn ⟨i,hi,hi2⟩
   obtain⟨p,h2,h3⟩:=this;rw[zcp]at h3;exact⟨p,λ_ _=>⟨h2,hb v p h2,by simpa using h3⟩⟩
  exact⟨0,λh1 h2=>absurd ⟨h1,h2⟩ hv⟩
 have hx:∃ v,v<ms.length/\v ∉ os:=by
  refine qaT λhn=>?_
  have:=zng qcP (xs:=List.range ms.length) (ys:=os) λx hx=>qaT λhx2=>hn ⟨x,qbi.1 hx,hx2⟩
  rw[qc3]at this;omega
 obtain⟨v0,hv0,hv1⟩:=hx
 let f:Nat->Nat:=λv=>Classical.choose (hf v)
 have hfs:∀ v,v<ms.length->v ∉ os->(ms.getD v 0).testBit (f v)=true/\f v<ms.length/\f v ∉ os:=λv=>Classical.choose_spec (hf v)
 have hin:∀ k,iter f v0 k<ms.length/\iter f v0 k ∉ os:=by
  intro k;induction k with
  | zero=>exact⟨hv0,hv1⟩
  | succ k ih=>exact(hfs _ ih.1 ih.2).2
 obtain⟨i,j,hij,he⟩:=zB0 (iter f v0) λk=>(hin k).1
 have hr:∀ d k,Reach ms (iter f v0 k) (iter f v0 (k+d)):=by
  intro d;induction d with
  | zero=>intro k; exact .refl _
  | succ d ih=>
   intro k;have:=ih (k+1);rw[show k+1+d=k+(d+1) by omega]at this;exact .step (hfs _ (hin k).1 (hin k).2).1 this
 refine⟨iter f v0 i,iter f v0 (i+1),(hin i).1,(hfs _ (hin i).1 (hin i).2).1,?_⟩;have:=hr (j - (i+1)) (i+1);rw[show i+1+(j - (i+1))=j by omega,<- he]at this;exact this
theorem zrT{ms:List Nat}(h:∀ v p,(ms.getD v 0).testBit p=true->rk p<rk v){b:Nat}(hr:Reach ms a b):rk b<=rk a:=by
 induction hr with
 | refl=>exact qap _
 | step e _ ih=>exact qaq ih (Nat.le_of_lt (h _ _ e))
def cnt(n s:Nat):Nat:=(List.range n).countP (s.testBit ·)
theorem zuV(n s:Nat):cnt n s<=n:=by
 have:=List.countP_le_length (p:=(s.testBit ·)) (l:=List.range n);rw[qc3]at this;exact this
theorem znb{p q:Nat->Bool}:∀ {xs:List Nat},(∀ x∈xs,p x=true->q x=true)->(∃ x∈xs,p x=false/\q x=true)->xs.countP p<xs.countP q
 | [],_,h=>by obtain⟨x,hx,_⟩:=h; cases hx
 | y :: ys,h1,h2=>by
  have hle:ys.countP p<=ys.countP q:=List.countP_mono_left λx hx=>h1 x (qai _ hx)
  rw[List.countP_cons,List.countP_cons];obtain⟨x,hx,h3,h4⟩:=h2;rcases qax.1 hx with rfl | hx
  .simp only[h3,h4]; simp; omega
  have ih:=znb (xs:=ys) (λx hx=>h1 x (qai _ hx)) ⟨x,hx,h3,h4⟩;cases hp:p y with
  | false=>simp only[qaS,if_false]; split<;>omega
  | true=>simp only[h1 y qam hp,if_true]; omega
variable{t:Nat}
theorem zq0(h1:Sub s t)(h2:∃ x,x<n/\s.testBit x=false/\t.testBit x=true):cnt n s<cnt n t:=by
 obtain⟨x,h3,h4,h5⟩:=h2;exact znb (λx _ hx=>h1 x hx) ⟨x,qbi.2 h3,h4,h5⟩
theorem zy7(h:n<=cnt n s):∀ x,x<n->s.testBit x=true:=by
 intro x hx;have h1:cnt n s=(List.range n).length:=by rw[qc3]; exact Nat.le_antisymm (zuV n s) h
 exact List.countP_eq_length.1 h1 x (qbi.2 hx)
theorem zh8{n:Nat}(F:Nat->Nat)(h1:∀ s,Sub s (F s))(h2:∀ s,(∀ x,s.testBit x=true->x<n)->∀ x,(F s).testBit x=true->x<n):∀(k s:Nat),(∀ x,s.testBit x=true->x<n)->
  F (iter F s k)=iter F s k\/k<=cnt n (iter F s k)
 | 0,s,_=>.inr (qau _)
 | k+1,s,h=>by
  have hin:∀ j,∀ x,(iter F s j).testBit x=true->x<n:=by
   intro j;induction j with
   | zero=>exact h
   | succ j ih=>exact h2 _ ih
  rcases zh8 F h1 h2 k s h with h3 | h3
  .exact .inl (by show F (F (iter F s k))=F (iter F s k); rw[h3,h3])
  by_cases he:F (iter F s k)=iter F s k
  .exact .inl (by show F (F (iter F s k))=F (iter F s k); rw[he,he])
  refine .inr (qb7 h3 (zq0 (h1 _) ?_));refine qaT λhno=>he ?_
  apply qbX;intro i;cases hi:(iter F s k).testBit i with
  | true=>exact h1 _ i hi
  | false=>
   cases hf:(F (iter F s k)).testBit i with
   | false=>rfl
   | true=>exact absurd ⟨i,hin (k+1) i hf,hi,hf⟩ hno
def zuM:S_net_network:=⟨⟨0,[]⟩,[],[],[]⟩
def PsV(m v:Int):Int->List Int->Prop
 | _,[]=>True
 | lo,p :: r=>lo<p/\p<m/\p≠v/\PsV m v p r
def znL(m:Int):Int->List Int->Prop
 | _,[]=>True
 | lo,p :: r=>lo<p/\p<m/\znL m p r
theorem PsV.iff{m v:Int}:∀ {ps:List Int} {lo:Int},PsV m v lo ps↔znL m lo ps/\∀ p∈ps,p≠v
 | [],lo=>by simp[PsV,znL]
 | p :: r,lo=>by
  simp only[PsV,znL,PsV.iff (ps:=r) (lo:=p),qax,forall_eq_or_imp];exact⟨λ⟨a,b,c,d,e⟩=>⟨⟨a,b,d⟩,c,e⟩,λ⟨⟨a,b,d⟩,c,e⟩=>⟨a,b,c,d,e⟩⟩
theorem znL.zCg{m:Nat}:∀ {ps:List Int} {lo:Int},-1<=lo->znL m lo ps->∃ qs:List Nat,ps=iL qs/\qs.Pairwise (· < ·)/\(∀ q∈qs,lo<(q:Int))/\∀ q∈qs,q<m
 | [],lo,_,_=>⟨[],rfl,List.Pairwise.nil,by simp,by simp⟩
 | p :: r,lo,hl,h=>by
  obtain⟨h1,h2,h3⟩:=h;obtain⟨qs,e,g1,g2,g3⟩:=h3.zCg (by omega);refine⟨p.toNat :: qs,?_,qbp.2 ⟨λq hq=>?_,g1⟩,λq hq=>?_,λq hq=>?_⟩
  .rw[e]; simp only[iL,qaF]; congr 1; omega
  .have:=g2 q hq; omega
  .rcases qax.1 hq with rfl | hq
   .omega
   have:=g2 q hq; omega
  rcases qax.1 hq with rfl | hq
  .omega
  exact g3 q hq
theorem znL.of{m:Nat}:∀ {qs:List Nat} {lo:Int},qs.Pairwise (· < ·)->(∀ q∈qs,lo<(q:Int))->(∀ q∈qs,q<m)->znL m lo (iL qs)
 | [],lo,_,_,_=>trivial
 | q :: r,lo,h,h1,h2=>by
  obtain⟨h3,h4⟩:=qbp.1 h;show lo<(q:Int)/\(q:Int)<(m:Int)/\znL m (q:Int) (iL r);refine⟨h1 q qam,by have:=h2 q qam; omega,znL.of h4 (λp hp=>by have:=h3 p hp; omega) λp hp=>h2 p (qai _ hp)⟩
theorem zpS{v:Nat}{ns:S_api_Net}{x:S_api_Node}{xs ys:List Nat}(hn:ns.nodes.length<=8)(hv:xs.length=v)(hpl:x.parents.length<=1000):∀(n i m:Nat) (lo:Int),-1<=lo->i<=x.parents.length->m<18446744073709551616->x.parents.length - i<n ->
  (PsV ns.nodes.length v lo (x.parents.drop i)/\∃ qs:List Nat,x.parents.drop i=iL qs/\zb9 x ns (v:Int) n lo (i:Int) (iL (xs ++ m :: ys))=some (.go (iL (xs ++ (qs.foldl (λm p=>m ||| 2 ^ p) m):: ys))))\/
  (¬ PsV ns.nodes.length v lo (x.parents.drop i)/\zb9 x ns (v:Int) n lo (i:Int) (iL (xs ++ m :: ys))=some (.ret (zuM,50)))
 | 0,_,_,_,_,_,_,h=>absurd h (qak _)
 | n+1,i,m,lo,hlo,h1,h2,h3=>by
  unfold zb9;by_cases hi:i<x.parents.length
  .have hd:x.parents.drop i=x.parents[i]:: x.parents.drop (i+1):=qas hi;obtain⟨p,hp⟩:∃ p,x.parents[i]=p:=⟨_,rfl⟩;rw[zam,qdB hi,qdz,zay hi,qaa,hd,hp];by_cases c1:p<=lo
   .refine .inr ⟨λh=>by have:=h.1; omega,?_⟩;rw[qdB c1,qdz,qaa,qdz]; rfl
   by_cases c2:(ns.nodes.length:Int)<=p
   .refine .inr ⟨λh=>by have:=h.2.1; omega,?_⟩;rw[qdC c1,qdA,qdB c2,qdz,qaa,qdz]; rfl
   by_cases c3:p=(v:Int)
   .refine .inr ⟨λh=>h.2.2.1 c3,?_⟩;rw[qdC c1,qdA,qdC c2,qdA,qaa,show(p ==(v:Int))=true by simp[c3],qdz]; rfl
   obtain⟨q,rfl⟩:∃ q:Nat,p=(q:Int):=⟨p.toNat,by omega⟩;have hpw:2 ^ q<18446744073709551616:=qa0 (n:=64) (by decide) (by omega);have hm:m ||| 2 ^ q<18446744073709551616:=qbc (n:=64) h2 hpw;rw[qdC c1,qdA,qdC c2,qdA,qaa,show((q:Int)==(v:Int))=false by rw[qdE]; exact c3,qdA,<- hv,zdK,qaa,zoy (by omega),qaa,orU h2 hpw,zgc,qaa,zah (by omega),hv];rcases zpS (v:=v) (ns:=ns) (x:=x) (xs:=xs) (ys:=ys) hn hv hpl n (i+1) (m ||| 2 ^ q) (q:Int) (by omega) hi hm (by omega)with⟨g1,qs,g2,g3⟩| ⟨g1,g2⟩
   .exact .inl ⟨⟨by omega,by omega,c3,g1⟩,q :: qs,by rw[g2]; rfl,by rw[g3]; rfl⟩
   exact .inr ⟨λh=>g1 h.2.2.2,g2⟩
  rw[zam,qdC hi,qdA,qaY (by omega)];exact .inl ⟨qdy,[],rfl,rfl⟩
theorem zqt{ps:List Int}{m:Int}(hpl:ps.length<=1000):∀(n i:Nat) (lo:Int),-1<=lo->(i=0->lo = -1)->(∀ h:i - 1<ps.length,i≠0->lo=ps[i - 1])->i<=ps.length->ps.length - i<n ->
  (znL m lo (ps.drop i)/\zbs ps m n (i:Int)=some (.go ()))\/(¬ znL m lo (ps.drop i)/\zbs ps m n (i:Int)=some (.ret false))
 | 0,_,_,_,_,_,_,h=>absurd h (qak _)
 | n+1,i,lo,hlo,h0,hp,h1,h3=>by
  unfold zbs;by_cases hi:i<ps.length
  .have hd:ps.drop i=ps[i]:: ps.drop (i+1):=qas hi;obtain⟨p,hpp⟩:∃ p,ps[i]=p:=⟨_,rfl⟩;rw[zam,qdB hi,qdz,zay hi,qaa,hd,hpp];by_cases c1:p<0
   .refine .inr ⟨λh=>by have:=h.1; omega,?_⟩;rw[qdB c1,qdz,qaa,qdz]
   by_cases c2:m<=p
   .refine .inr ⟨λh=>by have:=h.2.1; omega,?_⟩;rw[qdC c1,qdA,qdB c2,qdz,qaa,qdz]
   rw[qdC c1,qdA,qdC c2,qdA];have hrec:lo<p->(znL m lo (p :: ps.drop (i+1))/\zbs ps m n (w64 ((i:Int)+1))=some (.go ()))\/(¬ znL m lo (p :: ps.drop (i+1))/\zbs ps m n (w64 ((i:Int)+1))=some (.ret false)):=by
    intro hlp;rw[zah (by omega)];rcases zqt hpl n (i+1) p (by omega) (λh=>by omega) (λh _=>by simp only[Nat.add_sub_cancel]; exact hpp.symm) hi (by omega)with⟨g1,g2⟩| ⟨g1,g2⟩
    .exact .inl ⟨⟨hlp,by omega,g1⟩,g2⟩
    exact .inr ⟨λh=>g1 h.2.2,g2⟩
   by_cases c3:i=0
   .have c4:¬ ((0:Int)<(i:Int)):=by omega
    rw[qdC c4,qdA,qaa,qdA];exact hrec (by have:=h0 c3; omega)
   have hi1:i - 1<ps.length:=by omega
   have hlo':=hp hi1 c3;have c4:(0:Int)<(i:Int):=by omega
   rw[qdB c4,qdz,show w64 ((i:Int) - 1)=((i - 1:Nat):Int) by rw[zfk (by omega) (by omega)]; omega,zay hi1,qaa,qaa,<- hlo'];by_cases c5:p<=lo
   .rw[qdB c5,qdz];exact .inr ⟨λh=>by have:=h.1; omega,rfl⟩
   rw[qdC c5,qdA];exact hrec (by omega)
  rw[zam,qdC hi,qdA,qaY (by omega)];exact .inl ⟨qdy,rfl⟩
theorem zsG{ps:List Int}{m:Int}(hpl:ps.length<=1000):∃ b,zdN ps m=some b/\(b=true↔znL m (-1) ps):=by
 unfold zdN;rw[zaq];rcases zqt (m:=m) hpl (ps.length+2) 0 (-1) (by omega) (λ_=>rfl) (λ_ h=>absurd rfl h) (qau _) (by omega)with⟨g1,g2⟩| ⟨g1,g2⟩
 .rw[show((0:Nat):Int)=0 from rfl]at g2;rw[g2,qaa];exact⟨true,rfl,λ_=>g1,λ_=>rfl⟩
 rw[show((0:Nat):Int)=0 from rfl]at g2;rw[g2,qaa];exact⟨false,rfl,λh=>by(cases h),λh=>absurd h g1⟩
theorem znf{a b:List Nat}(h:iL a=iL b):a=b:=by
 have:=congrArg (List.map Int.toNat) h;simpa [iL,qbv]using this
def zq4(g c:Nat)(r:List Int):Prop:=∃ zs:List Nat,r=iL zs/\zs.length=c/\zs.sum=g
theorem zkf{y:Int×List Int}(hl:y.2.length<=1000):∀(n i r:Nat),i<=y.2.length->r<=65536->y.2.length - i<n ->
  (∃ zs:List Nat,y.2.drop i=iL zs/\zs.sum<=r/\zaC y n (r:Int) (i:Int)=some (.go ((r - zs.sum:Nat):Int)))\/
  ((¬ ∃ zs:List Nat,y.2.drop i=iL zs/\zs.sum<=r)/\zaC y n (r:Int) (i:Int)=some (.ret false))
 | 0,_,_,_,_,h=>absurd h (qak _)
 | n+1,i,r,h1,hr,h3=>by
  unfold zaC;by_cases hi:i<y.2.length
  .have hd:y.2.drop i=y.2[i]:: y.2.drop (i+1):=qas hi;obtain⟨p,hpp⟩:∃ p,y.2[i]=p:=⟨_,rfl⟩;rw[zam,qdB hi,qdz,zay hi,qaa,hd,hpp];by_cases c1:p<0
   .refine .inr ⟨λ⟨zs,e,_⟩=>?_,by rw[qdB c1,qdz,qaa,qdz]⟩;cases zs with
    | nil=>cases e
    | cons z zs=>simp only[iL,qaF,qcD]at e; omega
   by_cases c2:(r:Int)<p
   .refine .inr ⟨λ⟨zs,e,hs⟩=>?_,by rw[qdC c1,qdA,qaa,qdB c2,qdz]⟩;cases zs with
    | nil=>cases e
    | cons z zs=>simp only[iL,qaF,qcD]at e; rw[qcf]at hs; omega
   obtain⟨q,rfl⟩:∃ q:Nat,p=(q:Int):=⟨p.toNat,by omega⟩;rw[qdC c1,qdA,qaa,qdC c2,qdA,show((r:Int) - (q:Int))=((r - q:Nat):Int) by omega,zaJ (by omega),zah (by omega)];rcases zkf hl n (i+1) (r - q) hi (by omega) (by omega)with⟨zs,e,hs,g⟩| ⟨g1,g2⟩
   .refine .inl ⟨q :: zs,by rw[e]; rfl,by rw[qcf]; omega,by rw[g,qcf,Nat.sub_sub]⟩
   refine .inr ⟨λ⟨zs,e,hs⟩=>g1 ?_,g2⟩;cases zs with
   | nil=>cases e
   | cons z zs=>
    simp only[iL,qaF,qcD]at e;rw[qcf]at hs;exact⟨zs,e.2,by omega⟩
  rw[zam,qdC hi,qdA,qaY (by omega)];exact .inl ⟨[],rfl,qau _,by simp⟩
theorem zj1{g c:Nat}{nw:S_net_network}{x:S_api_Node}(hg:nw.net.grain=(g:Int))(hg2:g<=60)(hc:x.zap=(c:Int)):∀(L:List (Int×List Int)),(∀ y∈L,y.2.length<=1000)->
  ((∀ y∈L,zq4 g c y.2)/\zaw nw x L=some (.go ()))\/((¬ ∀ y∈L,zq4 g c y.2)/\zaw nw x L=some (.ret false))
 | [],_=>.inl ⟨λ_ h=>(nomatch h),rfl⟩
 | y :: L,h=>by
  unfold zaw;have hy:=h y qam;rw[hg,zaq];rcases zkf hy (y.2.length+2) 0 g (qau _) (by omega) (by omega)with⟨zs,e,hs,e3⟩| ⟨e1,e3⟩
  .rw[show((0:Nat):Int)=0 from rfl]at e3;rw[qa9]at e;rw[e3,qaa];simp only[];rw[hc,e,zak];by_cases c1:zs.length=c
   .rw[show(((zs.length:Nat):Int)==(c:Int))=true by simp[c1],qdz,qaa];by_cases c2:zs.sum=g
    .rw[c2,qcb,show(!(((0:Nat):Int)== 0))=false from rfl,qdA];rcases zj1 hg hg2 hc L λy hy=>h y (qai _ hy)with⟨g1,g2⟩| ⟨g1,g2⟩
     .refine .inl ⟨λz hz=>?_,g2⟩;rcases qax.1 hz with rfl | hz
      .exact⟨zs,e,c1,c2⟩
      exact g1 z hz
     exact .inr ⟨λhh=>g1 λz hz=>hh z (qai _ hz),g2⟩
    rw[show(!(((g - zs.sum:Nat):Int)== 0))=true by simp; omega,qdz];refine .inr ⟨λhh=>?_,rfl⟩;obtain⟨zs',e',_,h7⟩:=hh y qam;rw[e]at e';have:zs=zs':=znf e';exact c2 (by rw[this,h7])
   rw[show(((zs.length:Nat):Int)==(c:Int))=false by simp; omega,qdA,qaa,qdz];refine .inr ⟨λhh=>?_,rfl⟩;obtain⟨zs',e',h6,_⟩:=hh y qam;rw[e]at e';have:=congrArg List.length e';rw[zak,zak]at this;omega
  rw[show((0:Nat):Int)=0 from rfl]at e3;rw[qa9]at e1;rw[e3,qaa];refine .inr ⟨λhh=>e1 ?_,rfl⟩;obtain⟨zs,e,h6,h7⟩:=hh y qam;exact⟨zs,e,by omega⟩
theorem zrd(cs:List Nat)(c:Nat):zab (cs ++ [c])=zab cs * c:=by
 induction cs with
 | nil=>simp[zab]
 | cons x xs ih=>show x * zab (xs ++ [c])=x * zab xs * c; rw[ih,qbd]
theorem zoF{cs:List Nat}(h:∀ c∈cs,1<=c/\c<=4)(hl:cs.length<=8):zab cs<=65536:=
 qaq (zhz (m:=4) (by omega) λx hx=>(h x hx).2) (qaq (qbV (by decide) hl) (by decide))
theorem zqW{d:S_api_Net}(hn:d.nodes.length<=8):∀(n:Nat) (xs ys:List S_api_Node) (cs:List Nat),xs ++ ys=d.nodes->xs.map (·.zap)=iL cs->(∀ c∈cs,1<=c/\c<=4)->ys.length<n ->
  zbC d n ((zab cs:Nat):Int) (xs.length:Int) (iL (cs ++ List.replicate ys.length 0))=some (.ret (zuM,50))\/
  ∃ cs':List Nat,d.nodes.map (·.zap)=iL cs'/\(∀ c∈cs',1<=c/\c<=4)/\zbC d n ((zab cs:Nat):Int) (xs.length:Int) (iL (cs ++ List.replicate ys.length 0))=some (.go (((zab cs':Nat):Int),iL cs'))
 | 0,_,_,_,_,_,_,h=>absurd h (qak _)
 | n+1,xs,[],cs,h1,h2,h4,h3=>by
  unfold zbC;rw[qaQ]at h1;subst h1;rw[zam,qdC (by omega),qdA];exact .inr ⟨cs,h2,h4,by simp⟩
 | n+1,xs,y :: ys,cs,h1,h2,h4,h3=>by
  unfold zbC;have hxl:cs.length=xs.length:=by have:=congrArg List.length h2; simpa [zak]using this.symm
  have hxn:xs.length<d.nodes.length:=by rw[<- h1]; simp
  have hy:d.nodes[xs.length]=y:=by simp[<- h1]
  rw[zam,qdB hxn,qdz,zay hxn,qaa,hy];by_cases c1:y.zap<1
  .rw[qdB c1,qdz,qaa,qdz];exact .inl rfl
  by_cases c2:4<y.zap
  .rw[qdC c1,qdA,qdB c2,qaa,qdz];exact .inl rfl
  obtain⟨c,hc⟩:∃ c:Nat,y.zap=(c:Int):=⟨y.zap.toNat,by omega⟩;have h4':∀ z∈cs ++ [c],1<=z/\z<=4:=λz hz=>by
   rcases qa8.1 hz with hz | hz
   .exact h4 z hz
   rw[qaL.1 hz]; omega
  have hb:zab (cs ++ [c])<=65536:=zoF h4' (by simp; omega);have ih:=zqW hn n (xs ++ [y]) ys (cs ++ [c]) (by rw[<- h1]; simp) (by rw[qbw,h2]; simp[iL,hc]) h4' (by simp at h3; omega);have hcx:((xs.length:Nat):Int)=((cs.length:Nat):Int):=by rw[hxl]
  rw[qdC c1,qdA,qdC c2,qaa,qdA,qaP,qa1,hcx,zdK,qaa,hc,zgc,qaa,<- qbo,<- zrd,zaJ (by omega),zah (by omega)];rw[show(xs ++ [y]).length=cs.length+1 by simp[hxl],show cs ++ [c]++ List.replicate ys.length 0=cs ++ c :: List.replicate ys.length 0 by simp]at ih;exact ih
theorem zjm{p:List Nat->Prop}:∀ {rows:List (List Int)},(∀ r∈rows,∃ zs:List Nat,r=iL zs/\p zs)->∃ zss:List (List Nat),rows=zss.map iL/\∀ zs∈zss,p zs
 | [],_=>⟨[],rfl,λ_ h=>nomatch h⟩
 | r :: rows,h=>by
  obtain⟨zs,e,h1⟩:=h r qam;obtain⟨zss,e2,h2⟩:=zjm (rows:=rows) λr hr=>h r (qai _ hr)
  refine⟨zs :: zss,by rw[e,e2]; rfl,λz hz=>?_⟩;rcases qax.1 hz with rfl | hz
  .exact h1
  exact h2 z hz
theorem zv1{cs ps:List Nat}{nodes:List S_api_Node}{sets order:List Int}{x:S_api_Node}(hg2:g<=60)(hc:x.zap=(c:Int))(hps:x.parents=iL ps)(hp:Pl cs.length ps)(hl:ps.length<=8)(hcs:∀ p∈ps,1<=cs.getD p 0)(hm:zab (ps.map λp=>cs.getD p 0)<=65536)(hrl:x.rows.length<=1000)(hrr:∀ r∈x.rows,r.length<=1000):
  zaR ⟨⟨(g:Int),nodes⟩,iL cs,sets,order⟩ x=some false\/zaR ⟨⟨(g:Int),nodes⟩,iL cs,sets,order⟩ x=some true/\∃ rows,x.rows=rows.map iL/\RowsOk g c (zab (ps.map λp=>cs.getD p 0)) rows:=by
 unfold zaR;have e:=ziS (x:=x) (nodes:=⟨(g:Int),nodes⟩) (sets:=sets) (order:=order) hps hp hl hcs (ps.length+2) 0 1 (qau _) (by simpa using hm) (by omega);rw[show((0:Nat):Int)=0 from rfl,show((1:Nat):Int)=1 from rfl,qa9,qbl]at e;rw[hps,zak,zaq,e,qaa];by_cases c1:x.rows.length=zab (ps.map λp=>cs.getD p 0)
 .rw[show(((x.rows.length:Nat):Int)==((zab (ps.map λp=>cs.getD p 0):Nat):Int))=true by rw[c1]; simp,qdz];unfold zf0;rw[qaa];have hs:zgm x.rows=some ():=by
   unfold zgm;rw[if_pos (by omega)]
  rw[hs,qaa];have hz:∀ y:Int×List Int,y∈zvB x.rows->y.2∈x.rows:=by
   intro y hy;unfold zvB at hy;obtain⟨q,hq,rfl⟩:=qaz.1 hy;have:=List.mem_zipIdx' hq;rw[this.2]; exact qao _
  rcases zj1 (g:=g) (c:=c) (nw:=⟨⟨(g:Int),nodes⟩,iL cs,sets,order⟩) (x:=x) rfl hg2 hc (zvB x.rows) (λy hy=>hrr _ (hz y hy))with⟨g1,g2⟩| ⟨g1,g2⟩
  .rw[g2,qaa];refine .inr ⟨rfl,?_⟩;obtain⟨rows,e1,e2⟩:=zjm (p:=λzs=>zs.length=c/\zs.sum=g) (rows:=x.rows) λr hr=>by
    obtain⟨i,hi,rfl⟩:=qbY.1 hr;obtain⟨zs,h1,h2,h3⟩:=g1 ((i:Int),x.rows[i]) (qaz.2 ⟨(x.rows[i],i),List.mk_mem_zipIdx_iff_getElem?.2 (qac hi),rfl⟩);exact⟨zs,h1,h2,h3⟩
   exact⟨rows,e1,by rw[<- c1,e1,qay],e2⟩
  rw[g2,qaa];exact .inl rfl
 rw[show(((x.rows.length:Nat):Int)==((zab (ps.map λp=>cs.getD p 0):Nat):Int))=false by rw[qdE]; omega,qdA];exact .inl rfl
structure NdOk (g:Nat) (cs:List Nat) (z:NN):Prop where
 inc:z.ps.Pairwise (· < ·)
 lt:∀ p∈z.ps,p<cs.length
 rows:RowsOk g z.c (zab (z.ps.map λp=>cs.getD p 0)) z.rows
theorem PsV.zCg{m v:Nat}{ps:List Int}(h:PsV m v (-1) ps):∃ qs:List Nat,ps=iL qs/\qs.Pairwise (· < ·)/\(∀ q∈qs,q<m)/\∀ q∈qs,q≠v:=by
 obtain⟨h1,h2⟩:=PsV.iff.1 h;obtain⟨qs,e,g1,_,g3⟩:=h1.zCg (by omega);refine⟨qs,e,g1,g3,λq hq he=>?_⟩;exact h2 (q:Int) (by rw[e]; exact qaz.2 ⟨q,hq,rfl⟩) (by rw[he])
structure BndX (k:Nat) (x:S_api_Node):Prop where
 par:x.parents.length<=k
 rows:x.rows.length<=k
 row:∀ r∈x.rows,r.length<=k
structure BndK (k:Nat) (d:S_api_Net):Prop where
 nodes:d.nodes.length<=k
 node:∀ x∈d.nodes,BndX k x
theorem BndX.mono{k m:Nat}{x:S_api_Node}(h:BndX k x)(hk:k<=m):BndX m x:=⟨qaq h.par hk,qaq h.rows hk,λr hr=>qaq (h.row r hr) hk⟩
theorem BndK.mono{k m:Nat}{d:S_api_Net}(h:BndK k d)(hk:k<=m):BndK m d:=⟨qaq h.nodes hk,λx hx=>(h.node x hx).mono hk⟩
abbrev Bnd(d:S_api_Net):Prop:=BndK 1000 d
theorem zqv{g:Nat}{cs:List Nat}{d:S_api_Net}(hg:d.grain=(g:Int))(hg2:g<=60)(hb:Bnd d)(hn:d.nodes.length<=8)(hcs:d.nodes.map (·.zap)=iL cs)(hc:∀ c∈cs,1<=c/\c<=4):∀(n:Nat) (zs:List NN) (ys:List S_api_Node),zs.map nd ++ ys=d.nodes ->
  (∀ z∈zs,NdOk g cs z)->ys.length<n ->
  zbB d (iL cs) n (zs.length:Int) (iL (zs.map (λx=>zbi x.ps)++ List.replicate ys.length 0))=some (.ret (zuM,50))\/
  ∃ ns:List NN,d.nodes=ns.map nd/\(∀ z∈ns,NdOk g cs z)/\zbB d (iL cs) n (zs.length:Int) (iL (zs.map (λx=>zbi x.ps)++ List.replicate ys.length 0))=some (.go (iL (zai ns)))
 | 0,_,_,_,_,h=>absurd h (qak _)
 | n+1,zs,[],h1,h2,h3=>by
  unfold zbB;rw[qaQ]at h1;rw[<- h1,qay,zam,qdC (by omega),qdA];exact .inr ⟨zs,rfl,h2,by simp[zai]⟩
 | n+1,zs,y :: ys,h1,h2,h3=>by
  unfold zbB;have hxn:zs.length<d.nodes.length:=by rw[<- h1]; simp
  have hy:d.nodes[zs.length]=y:=by simp[<- h1]
  have hym:y∈d.nodes:=by rw[<- h1]; simp
  have hcl:cs.length=d.nodes.length:=by have:=congrArg List.length hcs; simpa [zak]using this.symm
  have hyc:y.zap=((cs[zs.length]'(by omega):Nat):Int):=by
   have:(d.nodes.map (·.zap))[zs.length]'(by simpa using hxn)=(iL cs)[zs.length]'(by rw[zak]; omega):=by simp only[hcs]
   rw[qcO,hy,ztp (by omega)]at this;exact this
  obtain⟨c,hcc⟩:∃ c,cs[zs.length]'(by omega)=c:=⟨_,rfl⟩;rw[hcc]at hyc;rw[zam,qdB hxn,qdz,zay hxn,qaa,hy,qaP,qa1,zaq];have e3:=zpS (v:=zs.length) (ns:=d) (x:=y) (xs:=zs.map λx=>zbi x.ps) (ys:=List.replicate ys.length 0) hn (by simp) (hb.node y hym).par (y.parents.length+2) 0 0 (-1) (by omega) (qau _) (by decide) (by omega);rw[show((0:Nat):Int)=0 from rfl,qa9]at e3;rcases e3 with⟨g1,qs,g2,g3⟩| ⟨g1,g2⟩
  .rw[g3,qaa];simp only[];rw[show(qs.foldl (λm p=>m ||| 2 ^ p) 0)=zbi qs from rfl];obtain⟨qs',e,k1,k2,k3⟩:=g1.zCg;have:qs'=qs:=znf (by rw[<- e,<- g2]);subst this;have hps:∀ p∈qs',p<cs.length:=λp hp=>by rw[hcl]; exact k2 p hp
   have hq4:∀ p∈qs',1<=cs.getD p 0/\cs.getD p 0<=4:=λp hp=>by
    have h6:=hps p hp;rw[show cs.getD p 0=cs[p] by simp[h6]];exact hc _ (qao h6)
   have hql:qs'.length<=8:=by have:=zhJ k1 k2; omega
   obtain⟨G,ds⟩:=d;simp only at hg hn hcs hb hxn hy hym hcl h1 ⊢;subst hg;rcases zv1 (g:=g) (c:=c) (cs:=cs) (ps:=qs') (nodes:=ds) (sets:=iL (zs.map (λx=>zbi x.ps)++ zbi qs' :: List.replicate ys.length 0)) (order:=[]) (x:=y) hg2 hyc g2 hps hql (λp hp=>(hq4 p hp).1)
    (zoF (λz hz=>by obtain⟨p,hp,rfl⟩:=qaz.1 hz; exact hq4 p hp) (by simpa using hql)) (hb.node y hym).rows (hb.node y hym).row with e4 | ⟨e4,rows,r1,r2⟩
   .rw[e4,qaa,qdA];exact .inl rfl
   have hnd:nd ⟨c,qs',rows⟩=y:=by
    cases y;simp only at hyc g2 r1;simp only[nd,hyc,g2,r1]
   have ih:=zqv (d:=⟨(g:Int),ds⟩) rfl hg2 hb hn hcs hc n (zs ++ [⟨c,qs',rows⟩]) ys (by rw[<- h1,qbw,<- hnd]; simp) (λz hz=>by
    rcases qa8.1 hz with hz | hz
    .exact h2 z hz
    rw[qaL.1 hz]; exact⟨k1,hps,r2⟩) (by simp at h3; omega)
   rw[e4,qaa,qdz,zah (by omega)];rw[show(zs ++ [(⟨c,qs',rows⟩:NN)]).length=zs.length+1 by simp,show(zs ++ [(⟨c,qs',rows⟩:NN)]).map (λx=>zbi x.ps)++ List.replicate ys.length 0=zs.map (λx=>zbi x.ps)++ zbi qs' :: List.replicate ys.length 0 by simp]at ih;exact ih
  rw[g2,qaa];exact .inl rfl
theorem zkg{ms os:List Nat}{mask C:Nat}(hn:ms.length<=8)(hm:∀ m∈ms,m<18446744073709551616)(hk:mask<18446744073709551616)(hC:os.length+1<=C):∀(n i:Nat),i<=ms.length->(∀ u,u<i->¬ zh0 ms mask u)->ms.length - i<n ->
  ((∀ u,u<ms.length->¬ zh0 ms mask u)/\zbg (iL ms) (mask:Int) C n (i:Int) (iL os)=some (.go ()))\/
  ∃ v,First ms mask v/\zbg (iL ms) (mask:Int) C n (i:Int) (iL os)=some (.brk (((mask ||| 2 ^ v:Nat):Int),iL (os ++ [v])))
 | 0,_,_,_,h=>absurd h (qak _)
 | n+1,i,h1,h2,h3=>by
  by_cases hi:i<ms.length
  .obtain⟨b,hb,e,_⟩:=znY hm hk hi (by omega) (iL os);cases b with
   | true=>
    have hf:First ms mask i:=⟨hi,hb.1 rfl,h2⟩;exact .inr ⟨i,hf,zi4 hn hm hk hC hf (n+1) i (qap _) (by omega)⟩
   | false=>
    have hno:¬ zh0 ms mask i:=λh=>by have:=hb.2 h; cases this
    have ih:=zkg hn hm hk hC n (i+1) hi (λu hu=>by
     by_cases hui:u=i
     .rw[hui]; exact hno
     exact h2 u (by omega)) (by omega)
    unfold zbg;rw[zak,zam,qdB hi,qdz,zbf hi,qaa,e,qaa];simp only[];rw[qdA,zah (by omega)];exact ih
  refine .inl ⟨λu hu=>h2 u (by omega),?_⟩;unfold zbg;rw[zak,zam,qdC hi,qdA]
theorem zkA{ms:List Nat}(hn:ms.length<=8)(hm:∀ m∈ms,m<18446744073709551616):∀(n:Nat) (os:List Nat),zdq ms os->os.length<=ms.length->ms.length - os.length<n ->
  zbr (iL ms) ms.length n ((zbi os:Nat):Int) (iL os)=some (.ret ([],false))\/
  ∃ os',zdq ms os'/\os'.length=ms.length/\zbr (iL ms) ms.length n ((zbi os:Nat):Int) (iL os)=some (.go (iL os'))
 | 0,_,_,_,h=>absurd h (qak _)
 | n+1,os,h1,h2,h3=>by
  unfold zbr;rw[zak,zak,zam];by_cases hl:os.length<ms.length
  .have hk:zbi os<18446744073709551616:=Go.Dc.zdX λx hx=>by
    have:=h1.lt x hx;omega
   rw[qdB hl,qdz,zaq];rcases zkg (os:=os) (C:=ms.length) hn hm hk (by omega) (ms.length+2) 0 (qau _) (λu hu=>absurd hu (qak _)) (by omega)with⟨g1,g2⟩| ⟨v,g1,g2⟩
   .rw[show((0:Nat):Int)=0 from rfl]at g2;rw[g2,qaa];exact .inl rfl
   rw[show((0:Nat):Int)=0 from rfl]at g2;rw[g2,qaa];simp only[];rw[<- zqM];exact zkA hn hm n (os ++ [v]) (h1.app g1) (by simp; omega) (by simp; omega)
  exact .inr ⟨os,h1,by omega,by rw[qdC hl,qdA]⟩
theorem zwi{ms:List Nat}(hn:ms.length<=8)(hm:∀ m∈ms,m<18446744073709551616):
  zb7 (iL ms)=some ([],false)\/∃ os,zdq ms os/\os.length=ms.length/\zb7 (iL ms)=some (iL os,true):=by
 unfold zb7;rw[zak];have hcap:zxJ 8 ((ms.length:Nat):Int)=some ms.length:=by
  unfold zxJ;rw[if_pos ⟨qbL _,by simp only[zac]; omega⟩,qaG]
 rw[hcap,qaa,show(((ms.length:Nat):Int) - ((([]:List Int).length:Nat):Int)+2).toNat=ms.length+2 by simp; omega];have e:=zkA hn hm (ms.length+2) [] (λk v hk=>by simp at hk) (qau _) (by simp);rw[show((zbi []:Nat):Int)=0 from rfl,show iL []=[]from rfl]at e;rcases e with e | ⟨os,g1,g2,e⟩
 .rw[e,qaa]; exact .inl rfl
 rw[e,qaa]; exact .inr ⟨os,g1,g2,rfl⟩
variable{d:S_api_Net}
theorem zzv(hb:Bnd d):zc2 d=some (zuM,50)\/∃ g ns,d=zbF g ns/\RightN g ns:=by
 unfold zc2;by_cases c1:d.grain<1
 .rw[qdB c1,qdz,qaa,qdz]; exact .inl rfl
 by_cases c2:60<d.grain
 .rw[qdC c1,qdA,qdB c2,qdz,qaa,qdz]; exact .inl rfl
 by_cases c3:(d.nodes.length:Int)<1
 .rw[qdC c1,qdA,qdC c2,qdA,qdB c3,qdz,qaa,qdz]; exact .inl rfl
 by_cases c4:8<(d.nodes.length:Int)
 .rw[qdC c1,qdA,qdC c2,qdA,qdC c3,qdA,qdB c4,qaa,qdz]; exact .inl rfl
 rw[qdC c1,qdA,qdC c2,qdA,qdC c3,qdA,qdC c4,qaa,qdA];have hn:d.nodes.length<=8:=by omega
 have hz:List.replicate d.nodes.length (0:Int)=iL (List.replicate d.nodes.length 0):=by simp[iL]
 rw[zdh (by omega),qaa,zaq,hz];have e1:=zqW hn (d.nodes.length+2) [] d.nodes [] rfl rfl (λ_ h=>nomatch h) (by omega);simp only[qbe,qa7]at e1;rw[show((0:Nat):Int)=0 from rfl,show((zab []:Nat):Int)=1 from rfl]at e1;rcases e1 with e1 | ⟨cs,h1,h2,e1⟩
 .rw[e1,qaa]; exact .inl rfl
 rw[e1,qaa];simp only[];by_cases c5:(1024:Int)<((zab cs:Nat):Int)
 .rw[qdB c5,qdz]; exact .inl rfl
 rw[qdC c5,qdA];obtain⟨g,hg⟩:∃ g:Nat,d.grain=(g:Int):=⟨d.grain.toNat,by omega⟩;have e2:=zqv hg (by omega) hb hn h1 h2 (d.nodes.length+2) [] d.nodes rfl (λ_ h=>nomatch h) (by omega);simp only[qb9,qbe,qa7]at e2;rw[show((0:Nat):Int)=0 from rfl]at e2;rcases e2 with e2 | ⟨ns,h3,h4,e2⟩
 .rw[e2,qaa]; exact .inl rfl
 rw[e2,qaa];simp only[];have hnl:ns.length=d.nodes.length:=by rw[h3,qay]
 have hcs:ns.map (·.c)=cs:=by
  apply znf;rw[<- h1,h3];simp[iL,nd,qbv]
 have hml:(zai ns).length=ns.length:=by simp[zai]
 have hlt:∀ x∈ns,∀ p∈x.ps,p<ns.length:=λx hx p hp=>by
  have:=(h4 x hx).lt p hp;rw[<- hcs,qay]at this;exact this
 have hmm:∀ m∈zai ns,m<18446744073709551616:=by
  intro m hm;obtain⟨x,hx,rfl⟩:=qaz.1 hm;refine Go.Dc.zdX λp hp=>?_
  have:=hlt x hx p hp;omega
 rcases zwi (ms:=zai ns) (by omega) hmm with e3 | ⟨os,k1,k2,e3⟩
 .rw[e3,qaa]; simp only[]; rw[qdA]; exact .inl rfl
 refine .inr ⟨g,ns,?_,?_⟩
 .obtain⟨G,ds⟩:=d;simp only at hg h3;rw[hg,h3]; rfl
 refine⟨by omega,by omega,by omega,by omega,λx hx=>h2 _ (by rw[<- hcs]; exact qaz.2 ⟨x,hx,rfl⟩),by rw[hcs]; omega,λx hx=>(h4 x hx).inc,hlt,λx hx=>by rw[hcs]; exact(h4 x hx).rows,?_⟩;refine⟨λv=>os.idxOf v,λv=>?_,λv x hv p hp=>?_⟩
 .have:=List.idxOf_le_length (a:=v) (l:=os); simp only; omega
 have hvl:=(qab.1 hv).1;refine k1.zDC k2 v p (by omega) ?_;rw[show(zai ns).getD v 0=zbi x.ps by simp[zai,qae,hv],zcp];exact qdB hp
theorem BndX.fit{x:S_api_Node}(h:BndX 1000 x):FitN x:=⟨by have:=h.par; simp only[zac]; omega,by have:=h.rows; simp only[zac]; omega,λr hr=>by have:=h.row r hr; simp only[zac]; omega⟩
theorem BndK.set{k:Nat}{g:Int}{y:S_api_Node}(h:BndK k d)(hy:BndX k y):BndK k ⟨g,d.nodes.set t y⟩:=
 ⟨by simpa using h.nodes,λx hx=>by
  rcases qbF hx with hx | hx
  .exact h.node x hx
  rw[hx]; exact hy⟩
theorem zyI{n:Nat}:∀ {r:List Int} (i k:Nat) (hi:k+1<=r.length) (h3:k+1 - i<n) (hl:r.length<=1000),i<=k+1->∃ r2,swL n (i:Int) (k:Int) r=some r2/\r2.length=r.length:=by
 induction n with
 | zero=>intro r i k hi h3; exact absurd h3 (qak _)
 | succ n ih=>
  intro r i k hi h3 hl h4;unfold swL;rw[zam];by_cases hik:i<k
  .rw[qdB hik,qdz,zay (by omega),qaa,zay (by omega),qaa,zfd (by omega),qaa,zfd (by simp; omega),qaa,zah (by omega),
    show w64 ((k:Int) - 1)=((k - 1:Nat):Int) by rw[zfk (by omega) (by omega)]; omega]
   obtain⟨r2,e,h5⟩:=ih (r:=(r.set i (r[k]'(by omega))).set k (r[i]'(by omega))) (i+1) (k - 1) (by simp; omega) (by omega) (by simpa using hl) (by omega);exact⟨r2,e,by simpa using h5⟩
  rw[qdC hik,qdA];exact⟨r,rfl,rfl⟩
theorem zBm{r:List Int}(hl:r.length<=1000):∃ r2,swL (r.length+2) 0 (w64 ((r.length:Int) - 1)) r=some r2/\r2.length=r.length:=by
 by_cases h0:r.length=0
 .have:r=[]:=qaA h0;subst this;exact⟨[],rfl,rfl⟩
 rw[show w64 ((r.length:Int) - 1)=((r.length - 1:Nat):Int) by rw[zfk (by omega) (by omega)]; omega];exact zyI (n:=r.length+2) 0 (r.length - 1) (by omega) (by omega) hl (by omega)
variable{b:S_haruspexref05_Bend}
theorem zeu{K:Nat}{n:S_api_Net}{x:S_api_Node}(hb:BndK K n)(hx:BndX K x):∀ k,(k<=4\/k=10\/k=11)->∃ r,zwb b n x t k=some r/\BndK (K+1) r:=by
 have hb':=hb.mono (m:=K+1) (by omega);have hx':=hx.mono (m:=K+1) (by omega);rintro k (hk | rfl | rfl)
 .match k,hk with
  | 0,_=>exact⟨_,rfl,⟨hb'.nodes,hb'.node⟩⟩
  | 1,_=>exact⟨_,rfl,hb'.set ⟨hx'.par,hx'.rows,hx'.row⟩⟩
  | 2,_=>exact⟨_,rfl,hb'.set ⟨by have:=hx.par; simp; omega,hx'.rows,hx'.row⟩⟩
  | 3,_=>exact⟨_,rfl,hb'.set ⟨by simp,hx'.rows,hx'.row⟩⟩
  | 4,_=>exact⟨_,rfl,hb'.set ⟨hx'.par,by have:=hx.rows; simp; omega,λr hr=>by
    rcases qa8.1 hr with hr | hr
    .exact hx'.row r hr
    rw[qaL.1 hr]; simp⟩⟩
 .refine⟨_,rfl,⟨by have:=hb.nodes; simp; omega,λy hy=>?_⟩⟩;rcases qa8.1 hy with hy | hy
  .exact hb'.node y hy
  rw[qaL.1 hy];exact⟨by simp,by simp,λr hr=>by rw[qaL.1 hr]; simp⟩
 exact⟨_,rfl,⟨by have:=hb'.nodes; simp; omega,λy hy=>hb'.node y (qc6 hy)⟩⟩
theorem BndX.zCL{K:Nat}{w:Nat}{c:Int}{x:S_api_Node}{y:List Int}(hx:BndX (K+1) x)(hy:y.length<=K+1):BndX (K+1) ⟨c,x.parents,x.rows.set w y⟩:=
 ⟨hx.par,by simpa using hx.rows,λr hr=>by
  rcases qbF hr with hr | hr
  .exact hx.row r hr
  rw[hr]; exact hy⟩
theorem zxh{K:Nat}{n:S_api_Net}{x:S_api_Node}{w:Nat}{row:List Int}(hb:BndK K n)(hx:BndX K x)(hr:row.length<=K)(hK:K<=200):∀ k,k<12->∃ r,zsi b n x t w row k=some r/\BndK (K+1) r:=by
 have hb':=hb.mono (m:=K+1) (by omega);have hx':=hx.mono (m:=K+1) (by omega);intro k hk
 match k,hk with
 | 0,_=>exact zeu (b:=b) (t:=t) hb hx 0 (by omega)
 | 1,_=>exact zeu (b:=b) (t:=t) hb hx 1 (by omega)
 | 2,_=>exact zeu (b:=b) (t:=t) hb hx 2 (by omega)
 | 3,_=>exact zeu (b:=b) (t:=t) hb hx 3 (by omega)
 | 4,_=>exact zeu (b:=b) (t:=t) hb hx 4 (by omega)
 | 5,_=>exact⟨_,rfl,hb'.set ⟨hx'.par,by have:=hx.rows; simp; omega,λr hr=>hx'.row r (qc6 hr)⟩⟩
 | 6,_=>
  refine⟨_,rfl,?_⟩;cases row.isEmpty with
  | true=>exact hb'
  | false=>exact hb'.set (hx'.zCL (by simp; omega))
 | 7,_=>exact⟨_,rfl,hb'.set (hx'.zCL (by simp; omega))⟩
 | 8,_=>
  refine⟨_,rfl,?_⟩;cases row.isEmpty with
  | true=>exact hb'
  | false=>exact hb'.set (hx'.zCL (by simp; omega))
 | 9,_=>
  obtain⟨r2,e,h2⟩:=zBm (r:=row) (by omega);refine⟨⟨n.grain,n.nodes.set t ⟨x.zap,x.parents,x.rows.set w r2⟩⟩,?_,hb'.set (hx'.zCL (by omega))⟩;show((swL (row.length+2) 0 (w64 ((row.length:Int) - 1)) row).map λr2=>(⟨n.grain,n.nodes.set t ⟨x.zap,x.parents,x.rows.set w r2⟩⟩:S_api_Net))=_;rw[e]; rfl
 | 10,_=>exact zeu (b:=b) (t:=t) hb hx 10 (by omega)
 | 11,_=>exact zeu (b:=b) (t:=t) hb hx 11 (by omega)
theorem zrt{K:Nat}{n:S_api_Net}(h1:0<=b.what/\b.what<=255)(h2:0<=b.at_/\b.at_<=255)(h3:0<=b.row/\b.row<=255)(hb:BndK K n)(hK:K<=200:=by omega):∃ r,znQ b n=some r/\BndK (K+1) r:=by
 unfold znQ;rw[if_pos ⟨h1,h2,h3,by have:=hb.nodes; simp only[zac]; omega,λx hx=>((hb.node x hx).mono (by omega)).fit⟩];have hk:=qbk b.what.toNat (show 12 > 0 by decide);generalize b.what.toNat % 12=k at hk ⊢;unfold zy9;split
 .exact⟨_,rfl,hb.mono (by omega)⟩
 rename_i x hx;have hxm:=hb.node x (qaC hx);split
 .cases hc:decide (5<=k) && decide (k<=9)with
  | true=>exact⟨_,rfl,hb.mono (by omega)⟩
  | false=>
   rw[qdA];refine zeu hb hxm k ?_;simp at hc;omega
 rename_i row hrow;exact zxh hb hxm (hxm.row row (qaC hrow)) hK k hk
theorem NetOk.bnd{num:List Nat}(h:NetOk num g ns):BndK 100 (zbF g ns):=by
 refine⟨by have:=h.n2; simp[zbF]; omega,λy hy=>?_⟩;obtain⟨x,hx,rfl⟩:=qaz.1 hy;obtain⟨v,hv,rfl⟩:=qbY.1 hx;obtain⟨j,hj,hjv⟩:=qbY.1 (h.perm.all v hv);have hn:=h.node j v ns[v] (by rw[qac hj,hjv]) (qac hv);have h3:=hn.par.len;have hc:=h.zap ns[v] hx;have hm:zab (ns[v].ps.map λp=>(ns.map (·.c)).getD p 0)<=64:=by
  refine qaq (zhz (m:=4) (by omega) λz hz=>?_) ?_
  .obtain⟨p,hp,rfl⟩:=qaz.1 hz;by_cases hpl:p<ns.length
   .have:=h.zap ns[p] (qao hpl);simpa [hpl]using this.2
   simp[qae,show ns[p]? = none from qaI (by omega)]
  rw[qay];exact qaq (qbV (by decide) h3) (by decide)
 refine⟨by simp[nd,zak]; omega,by show(ns[v].rows.map iL).length<=100; rw[qay,hn.rows.len]; omega,λr hr=>?_⟩;obtain⟨zs,hz,rfl⟩:=qaz.1 (show r∈ns[v].rows.map iL from hr);rw[zak,(hn.rows.row zs hz).1]; omega
theorem zfa(a b:List Nat):zab (a ++ b)=zab a * zab b:=by
 induction a with
 | nil=>simp[zab]
 | cons x a ih=>
  rw[qbq];show x * zab (a ++ b)=x * zab a * zab b;rw[ih,qbd]
theorem zpn:∀(a b:List Nat) (j:Nat),0<zab b->j<zab a * zab b->dig (a ++ b) j=dig a (j / zab b)++ dig b (j % zab b)
 | [],b,j,_,h=>by
  have h:j<zab b:=by simpa [zab]using h
  simp[dig,qbm h]
 | c :: a,b,j,hb,h=>by
  have ha:0<zab a:=by
   rcases qcS (zab a)with h0 | h0
   .have:zab (c :: a)=c * zab a:=rfl;rw[this,h0]at h;simp at h
   exact h0
  rw[qbq];simp only[dig];rw[zpn a b (j % zab (a ++ b)) hb (by rw[zfa]; exact qbk _ (qdc ha hb)),zfa,qbq];have e1:j / (zab a * zab b)=j / zab b / zab a:=by rw[qdm,qaX]
  have e2:j % (zab a * zab b) / zab b=j / zab b % zab a:=by rw[qaX,Nat.mod_mul_right_div_self]
  have e3:j % (zab a * zab b) % zab b=j % zab b:=Nat.mod_mod_of_dvd _ ⟨zab a,qaX _ _⟩;rw[e1,e2,e3]
def zAv(B c:Nat)(rows:List (List Nat))(j:Nat):Nat:=(rows.getD (j / (c * B)* B+j % B) []).getD (j / B % c) 0
variable{B:Nat}
theorem ztS{x j:Nat}(hB:0<B)(hx:x<c)(h:(j / (c * B)* B+j % B)* c+j / B % c=i * c+x):j=(i / B * c+x)* B+i % B:=by
 have hc:0<c:=by omega
 have h1:j / B % c=x:=by
  have:=congrArg (· % c) h;rw[qb2,qbM,Nat.mod_mod,qb2 (i * c),qbM,qbm hx]at this;exact this
 have h2:j / (c * B)* B+j % B=i:=by
  have:(j / (c * B)* B+j % B)* c=i * c:=by omega
  exact Nat.eq_of_mul_eq_mul_right hc this
 have h3:i / B=j / (c * B):=by
  rw[<- h2,qb2,qcx _ _ hB,qcc (qbk _ hB),qaR]
 have h4:i % B=j % B:=by
  rw[<- h2,qb2,qbM,Nat.mod_mod]
 rw[h3,h4,<- h1];have e1:j / (c * B)=j / B / c:=by rw[qdm,qaX]
 rw[e1];have e2:=qch (j / B) c;have e3:=qch j B;rw[qaX c]at e2;rw[e2,qaX (j / B)];omega
variable{A:Nat}
theorem zDH{x:Nat}(hi:i<A * B)(hx:x<c):(i / B * c+x)* B+i % B<A * c * B:=by
 have hB:0<B:=by
  rcases qcS B with h | h
  .subst h; simp at hi
  exact h
 have h1:i / B<A:=qbW (by rw[qaX]; exact hi);have h2:i % B<B:=qbk _ hB;have h3:i / B * c+x<A * c:=by
  have:=qav c (show i / B+1<=A from h1);rw[qaN,qbl]at this;omega
 have h4:=qav B (show i / B * c+x+1<=A * c from h3);rw[qaN,qbl]at h4;omega
theorem zAx{x:Nat}(hB:0<B)(hx:x<c):((i / B * c+x)* B+i % B) / (c * B)* B+((i / B * c+x)* B+i % B) % B=i/\((i / B * c+x)* B+i % B) / B % c=x:=by
 have h2:i % B<B:=qbk _ hB;have e1:((i / B * c+x)* B+i % B) / B=i / B * c+x:=by rw[qb2,qcx _ _ hB,qcc h2,qaR]
 have e2:((i / B * c+x)* B+i % B) % B=i % B:=by rw[qb2,qbM,Nat.mod_mod]
 have e3:(i / B * c+x) / c=i / B:=by rw[qb2,qcx _ _ (by omega),qcc hx,qaR]
 have e4:(i / B * c+x) % c=x:=by rw[qb2,qbM,qbm hx]
 refine⟨?_,by rw[e1,e4]⟩;rw[qaX c,<- qdm,e1,e3,e2,qaX];exact qch i B
structure Fil (A B c:Nat) (rows:List (List Nat)) (k:Nat) (w:List Nat):Prop where
 len:w.length=A * c * B
 at_:∀ j,j<A * c * B->(j / (c * B)* B+j % B)* c+j / B % c<k->w.getD j 0=zAv B c rows j
theorem Fil.step{A B c i x:Nat}{rows:List (List Nat)}{w:List Nat}(h:Fil A B c rows (i * c+x) w)(hB:0<B)(hi:i<A * B)(hx:x<c):
  Fil A B c rows (i * c+(x+1)) (w.set ((i / B * c+x)* B+i % B) ((rows.getD i []).getD x 0)):=by
 have hlt:=zDH (A:=A) hi hx;refine⟨by rw[qat]; exact h.len,λj hj hk=>?_⟩;by_cases e:(i / B * c+x)* B+i % B=j
 .subst e;obtain⟨k1,k2⟩:=zAx (i:=i) hB hx;unfold zAv;rw[k1,k2,qae,qaE (by rw[h.len]; exact hlt),qbg]
 rw[qae,qar e,<- qae];refine h.at_ j hj ?_;rcases qbh ((j / (c * B)* B+j % B)* c+j / B % c) (i * c+x)with g | g
 .exact g
 exact absurd (ztS hB hx (by omega)).symm e
variable{rows:List (List Nat)}{w:List Nat}
theorem Fil.next(h:Fil A B c rows (i * c+c) w):Fil A B c rows ((i+1)* c+0) w:=by
 rw[qbH,qaN,qbl]; exact h
theorem Fil.all(h:Fil A B c rows (A * B * c+0) w)(hB:0<B)(hc:0<c):w=(List.range' 0 (A * c * B)).map (zAv B c rows):=by
 apply qcd
 .simp[h.len]
 intro j h1 h2;have hj:j<A * c * B:=by rw[<- h.len]; exact h1
 have hk:(j / (c * B)* B+j % B)* c+j / B % c<A * B * c+0:=by
  have g1:j / (c * B)<A:=qbW (by rw[qaX (c * B),<- qbd]; exact hj);have g2:j % B<B:=qbk _ hB;have g3:j / B % c<c:=qbk _ hc;have g4:=qav B (show j / (c * B)+1<=A from g1);rw[qaN,qbl]at g4;have g5:=qav c (show j / (c * B)* B+j % B+1<=A * B by omega);rw[qaN,qbl]at g5;omega
 have:=h.at_ j hj hk;rw[qae,qac h1,qbg]at this;rw[this];simp
def upS(ms:List Nat)(s v:Nat):Nat:=if s.testBit v then s ||| ms.getD v 0 else s
def upR(ms:List Nat)(s:Nat):Nat:=(List.range ms.length).foldl (upS ms) s
def EOk(ms:List Nat):Prop:=∀ v p,(ms.getD v 0).testBit p=true->v<ms.length/\p<ms.length
theorem Sub.zCG:Sub a a:=λ_ h=>h
theorem Sub.tr{b:Nat}(h1:Sub a b)(h2:Sub b c):Sub a c:=λi h=>h2 i (h1 i h)
theorem Sub.zDZ{b:Nat}(h1:Sub a b)(h2:Sub b a):a=b:=by
 apply qbX;intro i;exact qb8.2 ⟨h1 i,h2 i⟩
theorem zsw(ms:List Nat)(s v:Nat):Sub s (upS ms s v):=by
 intro i hi;unfold upS;split
 .rw[qbj,hi,Bool.true_or]
 exact hi
theorem zly{f:Nat->Nat->Nat}(h:∀ s v,Sub s (f s v)):∀(vs:List Nat) (s:Nat),Sub s (vs.foldl f s)
 | [],s=>Sub.zCG
 | v :: vs,s=>(h s v).tr (zly h vs (f s v))
theorem zqp{f:Nat->Nat->Nat}(h:∀ s v,Sub s (f s v)):∀(vs:List Nat) (s:Nat),vs.foldl f s=s->∀ v∈vs,f s v=s
 | [],_,_,_,hv=>nomatch hv
 | v :: vs,s,he,u,hu=>by
  rw[qb4]at he;have h1:f s v=s:=Sub.zDZ (by have:=zly h vs (f s v); rw[he]at this; exact this) (h s v);rw[h1]at he;rcases qax.1 hu with rfl | hu
  .exact h1
  exact zqp h vs s he u hu
theorem zlz{f:Nat->Nat->Nat}{P:Nat->Prop}(h:∀ s v,P s->P (f s v)):∀(vs:List Nat) (s:Nat),P s->P (vs.foldl f s)
 | [],_,h0=>h0
 | v :: vs,s,h0=>zlz h vs _ (h s v h0)
theorem zk5{f:Nat->Nat}{P:Nat->Prop}(h:∀ s,P s->P (f s))(s:Nat)(h0:P s):∀ k,P (iter f s k)
 | 0=>h0
 | k+1=>h _ (zk5 h s h0 k)
theorem zqc{f:Nat->Nat}(h:∀ s,Sub s (f s))(s:Nat):∀ k,Sub s (iter f s k)
 | 0=>Sub.zCG
 | k+1=>(zqc h s k).tr (h _)
theorem zqJ{ms:List Nat}(he:EOk ms)(hs:∀ x,s.testBit x=true->x<ms.length)(i:Nat):(iter (upR ms) s ms.length).testBit i=true↔∃ v,s.testBit v=true/\Reach ms v i:=by
 have hsub:∀ s,Sub s (upR ms s):=λs=>zly (zsw ms) _ s
 have hin:∀ s,(∀ x,s.testBit x=true->x<ms.length)->∀ x,(upR ms s).testBit x=true->x<ms.length:=λs h=>zlz (P:=λs=>∀ x,s.testBit x=true->x<ms.length) (λs v h x hx=>by
  unfold upS at hx;split at hx
  .rw[qbj]at hx;rcases qce.1 hx with hx | hx
   .exact h x hx
   exact(he v x hx).2
  exact h x hx) _ s h
 have hfix:upR ms (iter (upR ms) s ms.length)=iter (upR ms) s ms.length:=by
  rcases zh8 (n:=ms.length) (upR ms) hsub hin ms.length s hs with h | h
  .exact h
  refine Sub.zDZ (λx hx=>?_) (hsub _);exact zy7 h x (hin _ (zk5 (P:=λs=>∀ x,s.testBit x=true->x<ms.length) hin s hs _) x hx)
 have hclo:∀ v,(iter (upR ms) s ms.length).testBit v=true->Sub (ms.getD v 0) (iter (upR ms) s ms.length):=by
  intro v hv p hp;have h1:=zqp (zsw ms) _ _ hfix v (qbi.2 (he v p hp).1);unfold upS at h1;rw[if_pos hv]at h1;rw[<- h1,qbj,hp,qdx]
 constructor
 .intro hi;refine zk5 (f:=upR ms) (P:=λt=>∀ i,t.testBit i=true->∃ v,s.testBit v=true/\Reach ms v i) (λt ht=>?_) s (λi hi=>⟨i,hi,.refl i⟩) ms.length i hi;refine zlz (P:=λt=>∀ i,t.testBit i=true->∃ v,s.testBit v=true/\Reach ms v i) (λt v ht i hi=>?_) _ t ht;unfold upS at hi;split at hi
  .rename_i hv;rw[qbj]at hi;rcases qce.1 hi with hi | hi
   .exact ht i hi
   obtain⟨u,h1,h2⟩:=ht v hv;exact⟨u,h1,h2.tr (.step hi (.refl i))⟩
  exact ht i hi
 rintro⟨v,h1,h2⟩;exact zwd h2 (zqc hsub s _ v h1) hclo
theorem zwk(h:v<64):IntKind.u64.wrap (v:Int)=(v:Int):=zcZ (by omega)
theorem zjR(ha:a<18446744073709551616)(hv:v<64):zbk (a:Int) (v:Int)=some (a.testBit v):=by
 obtain⟨q,h1,h2⟩:=zzM ha hv;unfold zbk;rw[zwk hv,h1,qaa,h2];cases a.testBit v<;>rfl
theorem zuz{ms:List Nat}(hm:∀ m∈ms,m<18446744073709551616)(hs:s<18446744073709551616):upS ms s v<18446744073709551616:=by
 unfold upS;split
 .exact qbc (n:=64) hs (zcy hm v)
 exact hs
theorem zB2{ms:List Nat}(hn:ms.length<=60)(hm:∀ m∈ms,m<18446744073709551616):∀(k n v s:Nat),v+k=ms.length->s<18446744073709551616->k<n ->
  zej (iL ms) n (s:Int) (v:Int)=some (((List.range' v k).foldl (upS ms) s:Nat):Int)/\(List.range' v k).foldl (upS ms) s<18446744073709551616
 | k,0,_,_,_,_,h=>absurd h (qak _)
 | 0,n+1,v,s,h1,hs,_=>by
  refine⟨?_,hs⟩;unfold zej;rw[zak,zam,qdC (by omega),qdA];rfl
 | k+1,n+1,v,s,h1,hs,h3=>by
  have hv:v<ms.length:=by omega
  obtain⟨g1,g2⟩:=zB2 hn hm k n (v+1) (upS ms s v) (by omega) (zuz hm hs) (by omega);refine⟨?_,g2⟩;unfold zej;rw[zak,zam,qdB hv,qdz,zjR hs (by omega),qaa,zah (by omega),qcj,qb4];cases hb:s.testBit v with
  | true=>
   rw[qdz,zet hv,qaa,orU hs (zcy hm v),qaa,<- g1];unfold upS;rw[if_pos hb]
  | false=>
   rw[qdA,qaa,<- g1];unfold upS;rw[if_neg (by rw[hb]; decide)]
theorem zhH(f:Nat->Nat)(s k:Nat):iter f s (k+1)=iter f (f s) k:=by
 induction k with
 | zero=>rfl
 | succ k ih=>show f (iter f s (k+1))=f (iter f (f s) k); rw[ih]
theorem zAR{ms:List Nat}(hn:ms.length<=60)(hm:∀ m∈ms,m<18446744073709551616):∀(k n v s:Nat),v+k=ms.length->s<18446744073709551616->k<n ->
  zeg (iL ms) n (s:Int) (v:Int)=some ((iter (upR ms) s k:Nat):Int)/\iter (upR ms) s k<18446744073709551616
 | k,0,_,_,_,_,h=>absurd h (qak _)
 | 0,n+1,v,s,h1,hs,_=>by
  refine⟨?_,hs⟩;unfold zeg;rw[zak,zam,qdC (by omega),qdA];rfl
 | k+1,n+1,v,s,h1,hs,h3=>by
  have hv:v<ms.length:=by omega
  obtain⟨e1,e2⟩:=zB2 hn hm ms.length (ms.length+2) 0 s (by omega) hs (by omega);rw[<- qcB]at e1 e2;obtain⟨g1,g2⟩:=zAR hn hm k n (v+1) (upR ms s) (by omega) e2 (by omega);rw[zhH];refine⟨?_,g2⟩;unfold zeg;rw[show((0:Nat):Int)=0 from rfl]at e1;rw[zak,zam,qdB hv,qdz,zaq,e1,qaa,zah (by omega)];exact g1
theorem zAV{ms:List Nat}(hn:ms.length<=60)(hm:∀ m∈ms,m<18446744073709551616)(hs:s<18446744073709551616):
  zgd (iL ms) (s:Int)=some ((iter (upR ms) s ms.length:Nat):Int)/\iter (upR ms) s ms.length<18446744073709551616:=by
 obtain⟨e1,e2⟩:=zAR hn hm ms.length (ms.length+2) 0 s (by omega) hs (by omega);refine⟨?_,e2⟩;rw[show((0:Nat):Int)=0 from rfl]at e1;unfold zgd;rw[zak,zaq,e1,qaa]
def zpq(ms:List Nat)(v:Nat):Prop:=∀ p,(ms.getD v 0).testBit p=true->¬ Reach ms p v
theorem zBn{ms:List Nat}(hn:ms.length<=60)(hm:∀ m∈ms,m<18446744073709551616)(he:EOk ms):∀(n v:Nat),v<=ms.length->ms.length - v<n ->
  ((∀ u,v<=u->u<ms.length->zpq ms u)/\zbO (iL ms) n (v:Int)=some (.go ()))\/((∃ u,u<ms.length/\¬ zpq ms u)/\zbO (iL ms) n (v:Int)=some (.ret false))
 | 0,_,_,h=>absurd h (qak _)
 | n+1,v,h1,h3=>by
  unfold zbO;rw[zak,zam];by_cases hv:v<ms.length
  .obtain⟨e1,e2⟩:=zAV hn hm (zcy hm v);have hb:=zqJ he (s:=ms.getD v 0) (λx hx=>(he v x hx).2) v;rw[qdB hv,qdz,zet hv,qaa,e1,qaa,zjR e2 (by omega),qaa];cases hc:(iter (upR ms) (ms.getD v 0) ms.length).testBit v with
   | true=>
    obtain⟨p,h6,h7⟩:=hb.1 hc;exact .inr ⟨⟨v,hv,λh=>h p h6 h7⟩,rfl⟩
   | false=>
    have hno:zpq ms v:=λp h6 h7=>by
     have:=hb.2 ⟨p,h6,h7⟩;rw[hc]at this;cases this
    rw[qdA,zah (by omega)];rcases zBn hn hm he n (v+1) hv (by omega)with⟨g1,g2⟩| ⟨g1,g2⟩
    .refine .inl ⟨λu hu hul=>?_,g2⟩;by_cases huv:u=v
     .rw[huv]; exact hno
     exact g1 u (by omega) hul
    exact .inr ⟨g1,g2⟩
  rw[qdC hv,qdA];exact .inl ⟨λu h6 h7=>absurd h7 (by omega),rfl⟩
theorem zCf{ms:List Nat}(hn:ms.length<=60)(hm:∀ m∈ms,m<18446744073709551616)(he:EOk ms):
  ((∀ u,u<ms.length->zpq ms u)/\zcJ (iL ms)=some true)\/((∃ u,u<ms.length/\¬ zpq ms u)/\zcJ (iL ms)=some false):=by
 unfold zcJ;rw[zak,zaq];rcases zBn hn hm he (ms.length+2) 0 (qau _) (by omega)with⟨g1,g2⟩| ⟨g1,g2⟩
 .rw[show((0:Nat):Int)=0 from rfl]at g2;rw[g2,qaa];exact .inl ⟨λu=>g1 u (qau _),rfl⟩
 rw[show((0:Nat):Int)=0 from rfl]at g2;rw[g2,qaa];exact .inr ⟨g1,rfl⟩
end Go.Dc
