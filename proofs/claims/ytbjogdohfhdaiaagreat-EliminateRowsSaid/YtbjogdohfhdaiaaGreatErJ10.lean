/-
 Plain laws: the sizes of a net that is drawn, and of one that is changed. Conditions: none.
-/
import Derived.Test.YtbjogdohfhdaiaaGreatErJ7
import Derived.Test.YtbjogdohfhdaiaaGreatErJ12
import Derived.Test.YtbjogdohfhdaiaaGreatErJ6
import Derived.Test.YtbjogdohfhdaiaaGreatErJ5
import Derived.Test.YtbjogdohfhdaiaaGreatErJ8
set_option linter.unusedSimpArgs false
set_option linter.unusedVariables false
namespace Go.Dc
open Go Go.Mx Go.Lx
variable{k:Nat}
theorem BndK.set{t:Nat}{g:Int}{d:S_api_Net}{y:S_api_Node}(h:BndK k d)(hy:BndX k y):BndK k ⟨g,d.nodes.set t y⟩:=
 ⟨by simpa using h.nodes,λx hx=>by
  grind [Go.Dc.BndK]⟩
variable{v:Nat}
theorem zG5(h:v<64):IntKind.u64.wrap (v:Int)=(v:Int):=zbY (by omega)
theorem zFy{ms:List Nat}(hm:∀ m∈ms,m<18446744073709551616){s:Nat}(hs:s<18446744073709551616):upS ms s v<18446744073709551616:=by
 unfold upS;split
 .exact qbu (n:=64) hs (zi8 hm v)
 exact hs
theorem ztu(f:Nat->Nat)(s k:Nat):iter f s (k+1)=iter f (f s) k:=by
 induction k with
 | zero=>rfl
 | succ k ih=>show f (iter f s (k+1))=f (iter f (f s) k); rw[ih]
structure RN where
 c:Nat
 ps:List Nat
 rows:List (List Int)
def rd(x:RN):S_api_Node:=⟨x.c,iL x.ps,x.rows⟩
def P1(m:Int)(y:S_api_Node):Prop:=(1<=y.zaF/\y.zaF<=4)/\zC3 m (-1) y.parents
theorem zz9:∀ {zs:List Nat} {z:Nat},z∈zs->z<=zs.sum
 | x :: xs,z,h=>by
  rw[qc8];rcases qav.1 h with rfl | h
  .omega
  have:=zz9 h; omega
theorem zxU{n:Nat}{pss:List (List Nat)}(hl:pss.length=n)(hp:∀ ps∈pss,∀ p∈ps,p<n):EOk (pss.map zeP):=by
 grind [zf6,Go.Dc.EOk]
variable{g:Nat}
theorem RightN.p1{ns:List NN}(h:RightN g ns):∀ y∈ns.map nd,P1 (ns.length:Int) y:=by
 grind [nd,zC3.of,P1,Go.Dc.RightN]
def zFp:List Nat->Nat->List Nat
 | [],_=>[]
 | c :: cs,w=>(w / zac cs):: zFp cs (w % zac cs)
theorem ztm(c:Nat)(cs:List Nat):zac (c :: cs)=c * zac cs:=rfl
theorem zxV:∀ {cs:List Nat} {w:Nat},w<zac cs->∀(i:Nat) (h:i<cs.length),(zFp cs w).getD i 0<cs[i]
 | [],_,_,i,h=>absurd h (qam _)
 | c :: cs,w,hw,i,h=>by
  rw[ztm]at hw;have hp:0<zac cs:=Nat.pos_of_ne_zero λh0=>by rw[h0,qdh]at hw; omega
  cases i with
  | zero=>
   show w / zac cs<c;exact(qde hp).2 hw
  | succ i=>
   show(zFp cs (w % zac cs)).getD i 0<cs[i]'(by simpa using h);exact zxV (qa7 _ hp) i (by simpa using h)
theorem zB5{a b:Nat}(hb:0<b)(ha:a<9223372036854775808):zkp .i64 (a:Int) (b:Int)=some ((a / b:Nat):Int):=by
 unfold zkp;rw[show((b:Int)== 0)=false by rw[qdA]; omega,qdu,show((a:Int).tdiv (b:Int))=((a / b:Nat):Int)from rfl];congr 1
 have:a / b<=a:=qcC a b;exact zaC (by omega)
structure CsOk (cs:List Nat):Prop where
 len:cs.length<=8
 zaF:∀ c∈cs,1<=c/\c<=4
 prod:zac cs<=1024
theorem zoF{α:Type}{xs:List α}:∃ ys:List α,zev xs 0 (zmI (xs.length:Int) (k:Int))=some ys/\ys.length<=k/\∀ y∈ys,y∈xs:=by
 have hm:zmI (xs.length:Int) (k:Int)=((min xs.length k:Nat):Int):=by unfold zmI; split<;>omega
 refine⟨xs.take (min xs.length k),?_,by simp; omega,λy hy=>List.mem_of_mem_take hy⟩;rw[hm,show(0:Int)=((0:Nat):Int)from rfl];unfold zev;rw[if_pos (by omega)];simp
structure BendOk (b:S_haruspexref05_Bend):Prop where
 what:0<=b.what/\b.what<=255
 at_:0<=b.at_/\b.at_<=255
 row:0<=b.row/\b.row<=255
variable{ns:List NN}
theorem RightN.eok(h:RightN g ns):EOk (zan ns):=by
 have:zan ns=(ns.map (·.ps)).map zeP:=by simp[zan,Function.comp_def]
 rw[this];refine zxU (n:=ns.length) (by simp) λps hps p hp=>?_
 obtain⟨x,hx,rfl⟩:=qaH.1 hps;exact h.lt x hx p hp
theorem RightN.cs(h:RightN g ns):CsOk (ns.map (·.c)):=by
 refine⟨by have:=h.n2; simpa using this,λc hc=>?_,h.prod⟩;obtain⟨x,hx,rfl⟩:=qaH.1 hc;exact h.zaF x hx
theorem zAm{g:Nat}{ns:List NN}{e:List Int}{r1:S_net_network×Int}(hc:r1.1.zaf=iL (ns.map (·.c)))(hl:e.length=ns.length)(hn:ns.length<=8):∀(n m i:Nat),i<=e.length->e.length - i<n->e.length - i<m ->
  (zbk e r1 n (i:Int)=some (.go ())/\zbO e (zbx g ns) m (i:Int)=some (.go ()))\/
  (zbk e r1 n (i:Int)=some (.ret 2)/\zbO e (zbx g ns) m (i:Int)=some (.ret false))
 | 0,_,_,_,h,_=>absurd h (qam _)
 | _,0,_,_,_,h=>absurd h (qam _)
 | n+1,m+1,i,h1,h3,h5=>by
  unfold zbk zbO;rw[zaT];by_cases hi:i<e.length
  .obtain⟨x,hx⟩:∃ x,e[i]=x:=⟨_,rfl⟩;have hin:i<ns.length:=by omega
   rw[qdv hi,qdt,qdt,zba hi,qaa,qaa,hx];by_cases c1:x < -1
   .rw[qdv c1,qdt,qdt,qaa,qaa,qdt,qdt];exact .inr ⟨rfl,rfl⟩
   have hg:zaE (iL (ns.map (·.c))) (i:Int)=some ((ns[i].c:Nat):Int):=by rw[za5 (by simpa using hin)]; simp
   rw[qdw c1,qdu,qdu,hc,hg,show zaE (zbx g ns).nodes (i:Int)=some (nd ns[i])from zcw hin];simp only[qaa,show(nd ns[i]).zaF=((ns[i].c:Nat):Int)from rfl];by_cases c2:((ns[i].c:Nat):Int)<=x
   .rw[qdv c2,qdt,qdt];exact .inr ⟨rfl,rfl⟩
   rw[qdw c2,qdu,qdu,zai (by omega)];exact zAm hc hl hn n m (i+1) hi (by omega) (by omega)
  rw[qdw hi,qdu,qdu];exact .inl ⟨rfl,rfl⟩
theorem zBe(h:RightN g ns)(e:List Int):∃ b:Bool,zet (zbx g ns) e=some b/\zbG (zbx g ns) e=some (bif b then 0 else 2):=by
 obtain⟨os,_,_,e2⟩:=zqS h;have hn:=h.n2;have hnl:(zbx g ns).nodes.length=ns.length:=by simp[zbx]
 unfold zet zbG;rw[e2,qaa];simp only[];rw[show((0:Int)== 0)=true from rfl,qdt,hnl];by_cases hl:e.length=ns.length
 .rw[show(((e.length:Nat):Int)==((ns.length:Nat):Int))=true by rw[hl]; simp,qdt,qdt,zaK];rcases zAm (g:=g) (e:=e) (r1:=(⟨zbx g ns,iL (ns.map (·.c)),iL (zan ns),iL os⟩,0)) rfl hl hn (e.length+2) (e.length+2) 0 (qau _) (by omega) (by omega)with⟨g1,g2⟩| ⟨g1,g2⟩
  .rw[show((0:Nat):Int)=0 from rfl]at g1 g2;rw[g1,g2,qaa,qaa];exact⟨true,rfl,rfl⟩
  rw[show((0:Nat):Int)=0 from rfl]at g1 g2;rw[g1,g2,qaa,qaa];exact⟨false,rfl,rfl⟩
 rw[show(((e.length:Nat):Int)==((ns.length:Nat):Int))=false by rw[qdA]; omega,qdu,qdu];exact⟨false,rfl,rfl⟩
theorem zIt{a:Int}:∃ q,ziN .u8 a (v:Int)=some q:=zsd .u8 a
structure EvOk (cs:List Nat) (e:List Int):Prop where
 len:e.length=cs.length
 lo:∀ v,v<cs.length -> -1<=e.getD v (-1)
 hi:∀ v,v<cs.length->e.getD v (-1)<(cs.getD v 0:Nat)
structure KnOk (k:S_haruspexref05_Known):Prop where
 v:∀ x∈[k.v.a0,k.v.a1,k.v.a2,k.v.a3,k.v.a4,k.v.a5,k.v.a6,k.v.a7],0<=x/\x<=255
theorem zv0{ns:List NN}{g:Nat}{k:S_haruspexref05_Known}(hk:KnOk k)(hn:ns.length<=8)(hc:∀ x∈ns,1<=x.c):∀(n i:Nat) (acc:List Int),i<=ns.length->acc.length=i->(∀ v,v<i -> -1<=acc.getD v (-1)/\acc.getD v (-1)<((ns.map (·.c)).getD v 0:Nat))->ns.length - i<n ->
  ∃ out,zcx (zbx g ns) k n (i:Int) acc=some out/\EvOk (ns.map (·.c)) out
 | 0,_,_,_,_,_,h=>absurd h (qam _)
 | n+1,i,acc,h1,h2,h4,h3=>by
  unfold zcx;have hnl:(zbx g ns).nodes.length=ns.length:=by simp[zbx]
  rw[hnl,zaT];by_cases hi:i<ns.length
  .obtain⟨q,hq⟩:=zIt (a:=k.which) (v:=i);rw[qdv hi,qdt,zG5 (by omega),hq,qaa];have key:∃ y:Int,((bif ((ziv .u8 q 1)== 1)then((zaE [k.v.a0,k.v.a1,k.v.a2,k.v.a3,k.v.a4,k.v.a5,k.v.a6,k.v.a7] (i:Int)).bind λx5=>(zaE (zbx g ns).nodes (i:Int)).bind λx7=>(zp3 (w64 x5) x7.zaF).bind λq9=>some q9)else some (-1)):Option Int)=some y/\-1<=y/\y<((ns.map (·.c)).getD i 0:Nat):=by
    have hcx:=hc _ (qao hi);have hci:(ns.map (·.c)).getD i 0=ns[i].c:=by rw[qag,qa6,qac hi]; rfl
    rw[hci];cases(ziv .u8 q 1)== 1 with
    | false=>exact⟨-1,rfl,by omega,by omega⟩
    | true=>
     obtain⟨x5,h5,h6⟩:∃ x,zaE [k.v.a0,k.v.a1,k.v.a2,k.v.a3,k.v.a4,k.v.a5,k.v.a6,k.v.a7] (i:Int)=some x/\0<=x/\x<=255:=⟨_,zba (by simp; omega),hk.v _ (qao _)⟩;refine⟨(w64 x5).tmod ((ns[i].c:Nat):Int),?_,?_,?_⟩
     .rw[qdt,h5,qaa,show zaE (zbx g ns).nodes (i:Int)=some (nd ns[i])from zcw hi,qaa,show(nd ns[i]).zaF=((ns[i].c:Nat):Int)from rfl];unfold zp3;rw[show((((ns[i].c:Nat):Int))== 0)=false by rw[qdA]; omega,qdu,qaa]
     .rw[zgh (by omega) (by omega)];have:=Int.tmod_nonneg ((ns[i].c:Nat):Int) h6.1;omega
     rw[zgh (by omega) (by omega)];exact Int.tmod_lt_of_pos _ (by omega)
   obtain⟨y,hy,y1,y2⟩:=key
   obtain⟨out,ho,ho2⟩:=zv0 (g:=g) (k:=k) hk hn hc n (i+1) (acc ++ [y]) hi (by simp; omega) (λv hv=>by
    rw[qag];by_cases hvi:v<i
    .rw[qar (by omega),<- qag]; exact h4 v hvi
    have:v=i:=by omega
    subst this;rw[qaV (by omega),h2,qce]
    exact⟨y1,y2⟩) (by omega)
   refine⟨out,?_,ho2⟩;rw[hy,qaa,zcU (by simp; omega),qaa,zai (by omega),ho]
  have:i=ns.length:=by omega
  subst this;exact⟨acc,by rw[qdw hi,qdu],⟨by rw[h2,qak],λv hv=>(h4 v (by rwa [qak]at hv)).1,λv hv=>(h4 v (by rwa [qak]at hv)).2⟩⟩
theorem zzO{ns:List NN}{k:S_haruspexref05_Known}(hk:KnOk k)(hn:ns.length<=8)(hc:∀ x∈ns,1<=x.c):∃ out,zcj k (zbx g ns)=some out/\EvOk (ns.map (·.c)) out:=by
 obtain⟨out,e,e2⟩:=zv0 (g:=g) (k:=k) hk hn hc (ns.length+2) 0 [] (qau _) rfl (λv hv=>absurd hv (qam _)) (by omega);refine⟨out,?_,e2⟩;rw[show((0:Nat):Int)=0 from rfl]at e;unfold zcj;rw[show(zbx g ns).nodes.length=ns.length by simp[zbx],zaK,e,qaa]
def lo(ps:List Nat)(v:Nat):List Nat:=ps.filter λp=>decide (p<v)
def hi(ps:List Nat)(v:Nat):List Nat:=ps.filter λp=>decide (v<p)
def fam(ps:List Nat)(v:Nat):List Nat:=lo ps v ++ v :: hi ps v
theorem zEh{ps:List Nat}{x:Nat}(h:x∈lo ps v):x<v:=of_decide_eq_true (qaA.1 h).2
theorem zCp{ps:List Nat}{x:Nat}(h:x∈hi ps v):v<x:=of_decide_eq_true (qaA.1 h).2
theorem zvF{ps:List Nat}(h:ps.Pairwise (· < ·))(hv:v ∉ ps):lo ps v ++ hi ps v=ps:=by
 refine zi4 (qcU.2 ⟨qaK _ h,qaK _ h,λa ha b hb=>Nat.lt_trans (zEh ha) (zCp hb)⟩) h λx=>?_<;>grind [lo,hi]
theorem zmv{ps:List Nat}(h:ps.Pairwise (· < ·)):(fam ps v).Pairwise (· < ·):=by
 refine qcU.2 ⟨qaK _ h,qa4.2 ⟨λa ha=>zCp ha,qaK _ h⟩,λa ha b hb=>?_⟩
 grind [Go.Dc.lo,Go.Dc.hi]
theorem zef{ps:List Nat}{u:Nat}:u∈fam ps v↔u=v\/u∈ps:=by
 grind [fam,lo,hi]
theorem zE4(x y:Int):zes x y=some (decide (x<y)):=by
 rfl
theorem zHq{xs:List Nat}{v k:Nat}(hl:xs.length<=1000)(h1:∀ i (h:i<xs.length),i<k->xs[i]<v)(h2:∀ i (h:i<xs.length),k<=i->v<=xs[i]):∀(n i j:Nat),i<=k->k<=j->j<=xs.length->j - i<n ->
  zav (iL xs) (v:Int) n (i:Int) (j:Int)=some (k:Int)
 | 0,_,_,_,_,_,h=>absurd h (qam _)
 | n+1,i,j,a,b,c,d=>by
  unfold zav;rw[zaT];by_cases hij:i<j
  .have hm:(i+j) / 2<j:=by omega
   have hm2:i<=(i+j) / 2:=by omega
   have hx:(i+j) / 2<xs.length:=by omega
   rw[qdv hij,qdt,show((i:Int)+(j:Int))=((i+j:Nat):Int) by omega,zaC (by omega),zbY (by omega),show((1:Int))=((1:Nat):Int)from rfl,zGu (by omega),qaa,qcb,Nat.pow_one,zaC (by omega),za5 hx,qaa,zE4,qaa,zaT];by_cases hc:xs[(i+j) / 2]<v
   .rw[qdv hc,qdt,show((1:Nat):Int)=1 from rfl,zai (by omega)];refine zHq hl h1 h2 n _ j ?_ b c (by omega);rcases qa0 ((i+j) / 2) k with g | g
    .exact g
    exact absurd (h2 _ hx g) (by omega)
   rw[qdw hc,qdu];refine zHq hl h1 h2 n i _ a ?_ (by omega) (by omega);rcases qa0 ((i+j) / 2) k with g | g
   .exact absurd (h1 _ hx g) hc
   exact g
  rw[qdw hij,qdu,show i=k by omega]
theorem zIN{ps:List Nat}(h:ps.Pairwise (· < ·))(hv:v ∉ ps)(hl:ps.length<=1000):∃ b,za0 (iL ps) (v:Int)=some ((((lo ps v).length:Nat):Int),b):=by
 have e:=zvF h hv;have hlen:(lo ps v).length<=ps.length:=qdi _ _;have g1:∀ i (h:i<ps.length),i<(lo ps v).length->ps[i]<v:=by
  grind [zEh,qao]
 have g2:∀ i (h:i<ps.length),(lo ps v).length<=i->v<=ps[i]:=by
  grind [zCp,qao]
 have k:=zHq hl g1 g2 (ps.length+2) 0 ps.length (qau _) hlen (qap _) (by omega);rw[show((0:Nat):Int)=0 from rfl]at k;unfold za0;rw[zal,zaK,k,qaa,zaT];by_cases c:(lo ps v).length<ps.length
 .rw[qdv c,qdt,za5 c,qaa,show zcg ((ps[(lo ps v).length]:Nat):Int)=some false from rfl,qaa,qdu];cases hb:(((ps[(lo ps v).length]:Nat):Int)==(v:Int))<;> simp_all
 simp_all [qdw]
theorem zGQ{ps:List Nat}(h:ps.Pairwise (· < ·))(hv:v ∉ ps)(hl:ps.length<=1000):zCN 8 (iL ps) (((lo ps v).length:Nat):Int) [(v:Int)]=some (iL (fam ps v)):=by
 have e:=zvF h hv;have hlen:(lo ps v).length<=ps.length:=qdi _ _;unfold zCN;have hm:70368744177664<=zah:=by decide
 rw[if_pos ⟨⟨by omega,by rw[zal]; omega⟩,by simp,by rw[zal]; simp only[qaB,qa8]; omega⟩,qax];have ep:iL ps=iL (lo ps v)++ iL (hi ps v):=by rw[<- zwq,e]
 have t1:(iL ps).take (lo ps v).length=iL (lo ps v):=by
  rw[ep,qcK (by rw[zal]; exact qap _),qaM (by rw[zal]; exact qap _)]
 have t2:(iL ps).drop (lo ps v).length=iL (hi ps v):=by
  rw[ep,List.drop_append_of_le_length (by rw[zal]; exact qap _),qcq (by rw[zal]; exact qap _),qaU]
 rw[t1,t2];unfold fam;rw[zwq,show iL (v :: hi ps v)=(v:Int):: iL (hi ps v)from rfl,qaE];rfl
def cd(cs us:List Nat):List Nat:=us.map λp=>cs.getD p 0
structure FacOk (cs:List Nat) (v:Nat) (x:NN):Prop where
 inc:x.ps.Pairwise (· < ·)
 nv:v ∉ x.ps
 lt:∀ p∈x.ps,p<cs.length
 hv:v<cs.length
 cv:cs.getD v 0=x.c
 len:x.rows.length=zac (cd cs x.ps)
 row:∀ r∈x.rows,r.length=x.c
 num:∀ r∈x.rows,∀ w∈r,w<=60
 zaF:∀ c∈cs,1<=c/\c<=4
 l8:cs.length<=8
 prod:zac cs<=1024
def zt9(cs:List Nat)(v:Nat)(x:NN):Nat:=zac (cd cs (lo x.ps v))
def zbE(cs:List Nat)(v:Nat)(x:NN):Nat:=zac (cd cs (hi x.ps v))
def zhh(cs:List Nat)(v:Nat)(x:NN):Fc:=⟨fam x.ps v,cd cs (fam x.ps v),(List.range' 0 (zt9 cs v x * x.c * zbE cs v x)).map (zDu (zbE cs v x) x.c x.rows)⟩
theorem zgA{cs us:List Nat}(h:∀ c∈cs,1<=c/\c<=4)(hu:∀ u∈us,u<cs.length):∀ c∈cd cs us,1<=c/\c<=4:=by
 intro c hc;obtain⟨u,h1,rfl⟩:=qaH.1 hc;have h2:=hu u h1;have:cs.getD u 0=cs[u]:=by rw[qag,qac h2]; rfl
 rw[this];exact h _ (qao h2)
theorem FacOk.flt{cs:List Nat}{v:Nat}{x:NN}(h:FacOk cs v x):∀ u∈fam x.ps v,u<cs.length:=by
 intro u hu;rcases zef.1 hu with rfl | hu
 .exact h.hv
 exact h.lt u hu
theorem FacOk.fl8{cs:List Nat}{x:NN}(h:FacOk cs v x):(fam x.ps v).length<=8:=qaq (zn2 (zmv h.inc) h.flt) h.l8
theorem zFO{ps:List Nat}{u:Nat}(h:u∈hi ps v):u∈ps:=(qaA.1 h).1
theorem zoY(cs a b:List Nat):cd cs (a ++ b)=cd cs a ++ cd cs b:=qba
theorem FacOk.cdf{cs:List Nat}{x:NN}(h:FacOk cs v x):cd cs (fam x.ps v)=cd cs (lo x.ps v)++ x.c :: cd cs (hi x.ps v):=by
 unfold fam;rw[zoY];show _ ++ cs.getD v 0 :: _=_;rw[h.cv];rfl
theorem FacOk.size{cs:List Nat}{x:NN}(h:FacOk cs v x):zac (cd cs (fam x.ps v))=zt9 cs v x * x.c * zbE cs v x:=by
 rw[h.cdf,zfl,qa3];rfl
theorem FacOk.zGt{cs:List Nat}{x:NN}(h:FacOk cs v x):x.rows.length=zt9 cs v x * zbE cs v x:=by
 have e:=zvF h.inc h.nv;have e2:cd cs x.ps=cd cs (lo x.ps v)++ cd cs (hi x.ps v):=by rw[<- zoY,e]
 rw[h.len,e2,zfl];rfl
theorem zoy{f:Nat->Nat}(p:Nat->Bool):∀ {us:List Nat},(∀ u∈us,1<=f u)->zac ((us.filter p).map f)<=zac (us.map f)
 | [],_=>qap _
 | u :: us,h=>by
  have h1:=h u qaj;have h2:=zoy p λw hw=>h w (qah u hw)
  have h3:zac ((u :: us).map f)=f u * zac (us.map f):=rfl;rw[List.filter_cons,h3];cases p u with
  | true=>
   rw[if_pos rfl];exact qco _ h2
  | false=>
   rw[if_neg (by decide)];exact qaq h2 (qcN _ h1)
theorem zsH(cs:List Nat):(List.range cs.length).map (λp=>cs.getD p 0)=cs:=by
 refine qbJ (by simp) λi h1 h2=>?_
 rw[List.getElem_map,List.getElem_range,qag,qac h2];rfl
theorem zn3{cs us:List Nat}(hc:∀ c∈cs,1<=c)(h:us.Pairwise (· < ·))(hu:∀ u∈us,u<cs.length):zac (cd cs us)<=zac cs:=by
 have e:us=(List.range cs.length).filter (λu=>decide (u∈us)):=zi4 h (qaK _ qcO) λx=>by
  simp only[qaA,qaW,decide_eq_true_eq];exact⟨λhx=>⟨hu x hx,hx⟩,λhx=>hx.2⟩
 have k:=zoy (f:=λp=>cs.getD p 0) (λu=>decide (u∈us)) (us:=List.range cs.length) λu hx=>by
  have h2:=qaW.1 hx;rw[qag,qac h2];exact hc _ (qao h2)
 rw[<- e,zsH]at k;exact k
theorem FacOk.le{cs:List Nat}{x:NN}(h:FacOk cs v x):zt9 cs v x * x.c * zbE cs v x<=1024:=by
 rw[<- h.size];exact qaq (zn3 (λc hc=>(h.zaF c hc).1) (zmv h.inc) h.flt) h.prod
theorem FacOk.B0{cs:List Nat}{x:NN}(h:FacOk cs v x):0<zbE cs v x:=zdV λc hc=>(zgA h.zaF (λu hu=>h.lt u (zFO hu)) c hc).1
theorem FacOk.c1{cs:List Nat}{x:NN}(h:FacOk cs v x):1<=x.c/\x.c<=4:=by
 have:=zgA (us:=[v]) h.zaF (λu hu=>by rw[qaJ.1 hu]; exact h.hv) (cs.getD v 0) (qaJ.2 rfl);rw[h.cv]at this;exact this
def bp(k:Nat):Nat->List Nat->Nat
 | _,[]=>1
 | i,c :: r=>(bif decide (k<i)then c else 1)* bp k (i+1) r
theorem zEw{k:Nat}:∀(b:List Nat) (i:Nat),k<i->bp k i b=zac b
 | [],_,_=>rfl
 | c :: b,i,h=>by
  unfold bp;rw[qdv h,qdt,zEw b (i+1) (by omega)];rfl
theorem zzZ{k c:Nat}{b:List Nat}:∀(a:List Nat) (i:Nat),a.length+i=k->bp k i (a ++ c :: b)=zac b
 | [],i,h=>by
  have h:i=k:=by simpa using h
  subst h;rw[qaU];unfold bp;rw[qdw (qca i),qdu,qa2,zEw b (i+1) (by omega)]
 | d :: a,i,h=>by
  rw[qbc];unfold bp;rw[qdw (by simp only[qaB]at h; omega),qdu,qa2];exact zzZ a (i+1) (by simp only[qaB]at h; omega)
theorem zCD{fs cs:List Nat}{k:Nat}{b0:Bool}{p0:S_net_network}(hp:p0.zaf=iL cs)(hc:∀ c∈cs,1<=c/\c<=4)(hl:fs.length<=8)(hf:∀ u∈fs,u<cs.length):∀(ws us:List Nat) (n b:Nat),us ++ ws=fs->b<=4 ^ us.length->ws.length<n ->
  za7 (iL fs) p0 ((k:Int),b0) n (us.length:Int) (b:Int) (iL (cd cs us))=some (((b * bp k us.length (cd cs ws):Nat):Int),iL (cd cs fs))
 | _,_,0,_,_,_,h=>absurd h (qam _)
 | [],us,n+1,b,h1,h2,h3=>by
  rw[qaP]at h1;subst h1;unfold za7;rw[zal,zaT,qdw (qca _),qdu,show cd cs []=[]from rfl,show bp k us.length []=1 from rfl,qb7]
 | w :: ws,us,n+1,b,h1,h2,h3=>by
  have hul:us.length<fs.length:=by rw[<- h1]; simp
  have hw:w<cs.length:=hf w (by rw[<- h1]; simp);have hcw:=zgA (us:=[w]) hc (λu hu=>by rw[qaJ.1 hu]; exact hw) (cs.getD w 0) (qaJ.2 rfl);have hp8:(4:Nat) ^ us.length<=65536:=qaq (qbP (by decide) (show us.length<=8 by omega)) (by decide);have hnext:(us ++ [w])++ ws=fs:=by rw[qaE]; exact h1
  have hl1:(us ++ [w]).length=us.length+1:=by simp
  unfold za7;rw[zal,zaT,qdv hul,qdt,<- h1,zdf rfl,h1,qaa,hp,ze9 hw,qaa,zcU (by rw[zal]; unfold cd; simp only[qak,qaB,qa8]; omega),qaa];have e:iL (cd cs us)++ [((cs.getD w 0:Nat):Int)]=iL (cd cs (us ++ [w])):=by rw[zoY,zwq]; rfl
  rw[e,zai (by omega),show((us.length+1:Nat):Int)=(((us ++ [w]).length:Nat):Int) by rw[hl1]];simp only[];rw[zaT];by_cases hk:k<us.length
  .have hb:b * cs.getD w 0<=4 ^ (us.length+1):=by rw[qc5]; exact qbi h2 hcw.2
   have hb2:b * cs.getD w 0<=65536 * 4:=qbi (qaq h2 hp8) hcw.2;rw[qdv hk,qdt,<- qaZ,zaC (by omega),qaa,zCD hp hc hl hf ws (us ++ [w]) n (b * cs.getD w 0) hnext (by rw[hl1]; exact hb) (by simp only[qaB]at h3; omega)];rw[show cd cs (w :: ws)=cs.getD w 0 :: cd cs ws from rfl]
   conv=>rhs; unfold bp
   rw[qdv hk,qdt,hl1,qa3]
  rw[qdw hk,qdu,qaa,zCD hp hc hl hf ws (us ++ [w]) n b hnext (by rw[hl1,qc5]; omega) (by simp only[qaB]at h3; omega)];rw[show cd cs (w :: ws)=cs.getD w 0 :: cd cs ws from rfl]
  conv=>rhs; unfold bp
  rw[qdw hk,qdu,hl1,qa2]
variable{i y:Nat}
theorem zzi{w:List Nat}(h:i<w.length):zeT (iL w) (i:Int) (y:Int)=some (iL (w.set i y)):=by
 rw[zfr (by rw[zal]; exact h)];simp[iL,qcD]
theorem zD3{A B c i:Nat}{rows:List (List Nat)}{x1:S_api_Node}(hx:x1.zaF=(c:Int)){zs:List Nat}(hz:rows.getD i []=zs)(hzl:zs.length=c)(hB:0<B)(hi:i<A * B)(hA:A * c * B<=1024)(hc4:1<=c/\c<=4):∀(n x:Nat) (w:List Nat),x<=c->Fil A B c rows (i * c+x) w->c - x<n ->
  ∃ w',Fil A B c rows (i * c+c) w'/\za8 ((i:Int),iL zs) (B:Int) x1 n (x:Int) (iL w)=some (iL w')
 | 0,_,_,_,_,h=>absurd h (qam _)
 | n+1,x,w,h1,h2,h3=>by
  unfold za8;rw[zal,hzl,zaT];by_cases hxc:x<c
  .have hlt:=zDU (c:=c) hi hxc;have hb1:i / B * c+x<=(i / B * c+x)* B:=qaI _ hB;have hAB:A * B<=A * c * B:=qas B (qaI A hc4.1);have idx:w64 ((w64 ((w64 ((w64 (((i / B:Nat):Int)* x1.zaF))+(x:Int)))* (B:Int)))+((i % B:Nat):Int))=(((i / B * c+x)* B+i % B:Nat):Int):=by
    rw[hx,<- qaZ,zaC (by omega),<- qb3,zaC (by omega),<- qaZ,zaC (by omega),<- qb3,zaC (by omega)]
   have hw:(i / B * c+x)* B+i % B<w.length:=by rw[h2.len]; exact hlt
   have hst:=h2.step hB hi hxc;rw[hz]at hst;have hget:zs.getD x 0=zs[x]'(by omega):=by rw[qag,qac (by omega)]; rfl
   rw[hget]at hst;obtain⟨w',k1,k2⟩:=zD3 hx hz hzl hB hi hA hc4 n (x+1) _ hxc hst (by omega);refine⟨w',k1,?_⟩;rw[qdv hxc,qdt,za5 (by omega),qaa];simp only[];rw[zB5 hB (by omega),qaa,zgC hB,qaa,idx,za5 hw,qaa,zzi hw,qaa,zai (by omega),k2]
  have:x=c:=by omega
  subst this;exact⟨w,h2,by rw[qdw (qca _),qdu]⟩
def zDS:Nat->List (List Nat)->List (Int×List Int)
 | _,[]=>[]
 | i,z :: r=>((i:Int),iL z):: zDS (i+1) r
theorem zFI:∀(zs:List (List Nat)) (i:Nat),((zs.map iL).zipIdx i).map (λp=>((p.2:Int),p.1))=zDS i zs
 | [],_=>rfl
 | z :: zs,i=>by
  rw[qaL,List.zipIdx_cons,qaL,zFI zs (i+1)];rfl
theorem zEo{A B c:Nat}{rows:List (List Nat)}{x1:S_api_Node}(hx:x1.zaF=(c:Int))(hr:∀ r∈rows,r.length=c)(hl:rows.length=A * B)(hB:0<B)(hA:A * c * B<=1024)(hc4:1<=c/\c<=4):∀(ys:List (List Nat)) (i:Nat) (w:List Nat),rows.drop i=ys->i<=rows.length->Fil A B c rows (i * c+0) w ->
  ∃ w',Fil A B c rows (A * B * c+0) w'/\za9 (B:Int) x1 (zDS i ys) (iL w)=some (iL w')
 | [],i,w,h1,h2,h3=>by
  have:i=A * B:=by
   have:=congrArg List.length h1;simp only[qct,qa8]at this;omega
  subst this;exact⟨w,h3,rfl⟩
 | z :: ys,i,w,h1,h2,h3=>by
  have hi:i<rows.length:=by
   rcases qa0 i rows.length with g | g
   .exact g
   rw[qcq g]at h1; cases h1
  have e:=qay hi;rw[h1]at e;obtain⟨e1,e2⟩:=qcI e;have hz:rows.getD i []=z:=by rw[qag,qac hi,e1]; rfl
  have hzl:z.length=c:=by rw[e1]; exact hr _ (qao hi)
  obtain⟨w1,k1,k2⟩:=zD3 hx hz hzl hB (by omega) hA hc4 (c+2) 0 w (qau _) h3 (by omega);obtain⟨w',g1,g2⟩:=zEo hx hr hl hB hA hc4 ys (i+1) w1 e2.symm hi k1.next;refine⟨w',g1,?_⟩;rw[show((0:Nat):Int)=0 from rfl]at k2;show(za8 ((i:Int),iL z) (B:Int) x1 (((iL z).length:Int) - 0+2:Int).toNat 0 (iL w)).bind _=_;rw[zal,zaK,hzl,k2,qaa];exact g2
theorem zEZ{sets os:List Int}{x:NN}(hx:ns[v]? = some x)(h:FacOk (ns.map (·.c)) v x):zbU ⟨zbx g ns,iL (ns.map (·.c)),sets,os⟩ (v:Int)=some (zhh (ns.map (·.c)) v x).D:=by
 obtain⟨hv,ev⟩:=qab.1 hx;have hps:x.ps.length<=8:=qaq (zn2 h.inc h.lt) h.l8;obtain⟨b,e1⟩:=zIN h.inc h.nv (show x.ps.length<=1000 by omega);have e2:=zGQ h.inc h.nv (show x.ps.length<=1000 by omega);have e3:=zCD (fs:=fam x.ps v) (k:=(lo x.ps v).length) (b0:=b) (p0:=⟨zbx g ns,iL (ns.map (·.c)),sets,os⟩) rfl h.zaF h.fl8 h.flt (fam x.ps v) [] ((fam x.ps v).length+2) 1 rfl (qap _) (by omega);rw[show(([]:List Nat).length:Int)=0 from rfl,show cd (ns.map (·.c)) []=[]from rfl,show iL []=[]from rfl,show((1:Nat):Int)=1 from rfl,show([]:List Nat).length=0 from rfl,h.cdf,zzZ _ _ (by unfold cd; simp),qa2,<- h.cdf]at e3;have hrl:=h.zGt;have hmul:x.rows.length * x.c<=1024:=by
  have:=h.le;rw[hrl,Nat.mul_right_comm];exact this
 have hrl2:x.rows.length<=1024:=qaq (qaI _ h.c1.1) hmul;obtain⟨w',k1,k2⟩:=zEo (x1:=nd x) rfl h.row hrl h.B0 h.le h.c1 x.rows 0 _ rfl (qau _) (Fil.start _ _ _ _);have k3:=k1.all h.B0 (by have:=h.c1; omega);subst k3;unfold zbU;simp only[];rw[show zaE (zbx g ns).nodes (v:Int)=some (nd x) by rw[<- ev]; exact zcw hv,qaa,show(nd x).parents=iL x.ps from rfl,e1,qaa,zg4 (by rw[zal]; omega),qaa];simp only[];rw[e2,qaa,zal,zaK,e3,qaa];simp only[];rw[show(nd x).rows.length=x.rows.length by simp[nd],show(nd x).zaF=(x.c:Int)from rfl,<- qaZ,zaC (by omega),zdn (by omega),qaa,show zfL (nd x)=some (nd x)from rfl,qaa];rw[show zfm (nd x).rows=some () by unfold zfm; rw[if_pos (by rw[show(nd x).rows.length=x.rows.length by simp[nd]]; omega)],qaa];have hz:zuo (nd x).rows=zDS 0 x.rows:=zFI x.rows 0;have hrep:List.replicate (x.rows.length * x.c) (0:Int)=iL (List.replicate (zt9 (ns.map (·.c)) v x * x.c * zbE (ns.map (·.c)) v x) 0):=by
  rw[zgG,hrl,Nat.mul_right_comm]
 rw[hz,hrep];have k2':za9 ((zac (cd (ns.map (·.c)) (hi x.ps v)):Nat):Int) (nd x) (zDS 0 x.rows) (iL (List.replicate (zt9 (ns.map (·.c)) v x * x.c * zbE (ns.map (·.c)) v x) 0))=_:=k2;rw[k2',qaa];rfl
theorem RightN.fac(h:RightN g ns){x:NN}(hx:ns[v]? = some x):FacOk (ns.map (·.c)) v x:=by
 obtain⟨hv,ev⟩:=qab.1 hx;have hm:x∈ns:=ev ▸ qao hv;refine⟨h.inc x hm,λhp=>h.ne hx v hp rfl,by simpa using h.lt x hm,by simpa using hv,?_,(h.rows x hm).len,λr hr=>((h.rows x hm).row r hr).1,λr hr w hw=>?_,h.cs.zaF,by simpa using h.n2,h.prod⟩
 .rw[qag,qa6,hx];rfl
 have:=zz9 hw;have:=((h.rows x hm).row r hr).2;have:=h.g2;omega
def zgF:List Nat->List Nat->(Nat->Nat)->Nat->Nat
 | u :: us,d :: ds,F=>zgF us ds (upd F u d)
 | _,_,F=>F
theorem zsc:∀ {us ds:List Nat} {F:Nat->Nat} {x:Nat},x ∉ us->zgF us ds F x=F x
 | [],_,_,_,_=>by unfold zgF; rfl
 | u :: us,[],_,_,_=>by unfold zgF; rfl
 | u :: us,d :: ds,F,x,h=>by
  unfold zgF;rw[zsc λh1=>h (qah u h1),zfM λe=>h (by rw[e]; exact qaj)]
theorem zqG:∀ {us ds:List Nat} {F:Nat->Nat} {x:Nat},us.Nodup->us.length=ds.length->x∈us->zgF us ds F x=at_ us ds x
 | [],_,_,_,_,_,h=>by simp at h
 | u :: us,[],_,_,_,h,_=>by simp at h
 | u :: us,d :: ds,F,x,hn,hl,h=>by
  obtain⟨n1,n2⟩:=qaR.1 hn;unfold zgF;rw[zgE];by_cases e:u=x
  .subst e;rw[zsc n1,zdB,qdx,qdt]
  rw[qdy e,qdu];exact zqG n2 (by simpa using hl) ((qav.1 h).resolve_left λe2=>e e2.symm)
variable{j:Nat}
theorem zB8{cs:List Nat}{x:NN}(h:FacOk cs v x)(hj:j<zt9 cs v x * x.c * zbE cs v x):dig (cd cs (fam x.ps v)) j=dig (cd cs (lo x.ps v)) (j / (x.c * zbE cs v x))++ j / zbE cs v x % x.c :: dig (cd cs (hi x.ps v)) (j % zbE cs v x):=by
 have hB:=h.B0;have hc:=h.c1;have hp:zac (x.c :: cd cs (hi x.ps v))=x.c * zbE cs v x:=rfl;have hp0:0<x.c * zbE cs v x:=qc1 (by omega) hB;rw[h.cdf,zra _ _ _ (by rw[hp]; exact hp0) (by rw[hp,<- qa3]; exact hj),hp];congr 1
 show j % (x.c * zbE cs v x) / zbE cs v x :: dig (cd cs (hi x.ps v)) (j % (x.c * zbE cs v x) % zbE cs v x)=_;rw[show j % (x.c * zbE cs v x) / zbE cs v x=j / zbE cs v x % x.c by rw[qaS,Nat.mod_mul_right_div_self],Nat.mod_mod_of_dvd _ ⟨x.c,qaS _ _⟩]
variable{a b:List Nat}
theorem zIx{a' b':List Nat}{x x':Nat}(h:a ++ x :: b=a' ++ x' :: b')(hl:a.length=a'.length):a=a'/\x=x'/\b=b':=by
 obtain⟨h1,h2⟩:=List.append_inj h hl;obtain⟨h3,h4⟩:=qcI h2;exact⟨h1,h3,h4⟩
theorem zvC{cs:List Nat}{x:NN}(h:FacOk cs v x){F:Nat->Nat}(hj:j<zt9 cs v x * x.c * zbE cs v x)(e:(fam x.ps v).map F=dig (cd cs (fam x.ps v)) j):F v=j / zbE cs v x % x.c/\x.ps.map F=dig (cd cs x.ps) (j / (x.c * zbE cs v x)* zbE cs v x+j % zbE cs v x):=by
 rw[zB8 h hj]at e;unfold fam at e;rw[qba,qaL]at e;obtain⟨h1,h2,h3⟩:=zIx e (by rw[qak,zf8]; simp[cd]);refine⟨h2,?_⟩;have hB:=h.B0;have hmod:=qa7 j hB;have ha:j / (x.c * zbE cs v x)<zt9 cs v x:=qbQ (by rw[qaS (x.c * zbE cs v x),<- qa3]; exact hj);have hlt:j / (x.c * zbE cs v x)* zbE cs v x+j % zbE cs v x<zt9 cs v x * zbE cs v x:=by
  have:=qas (zbE cs v x) (show j / (x.c * zbE cs v x)+1<=zt9 cs v x from ha);rw[qaQ,qa2]at this;omega
 have hps:cd cs x.ps=cd cs (lo x.ps v)++ cd cs (hi x.ps v):=by rw[<- zoY,zvF h.inc h.nv]
 rw[hps,zra _ _ _ hB hlt];have d1:(j / (x.c * zbE cs v x)* zbE cs v x+j % zbE cs v x) / zbE cs v x=j / (x.c * zbE cs v x):=by rw[qcj,qcy _ _ hB,qb6 hmod,qaO]
 have d2:(j / (x.c * zbE cs v x)* zbE cs v x+j % zbE cs v x) % zbE cs v x=j % zbE cs v x:=by rw[qcj,qbz,Nat.mod_mod]
 show _=dig _ ((j / (x.c * zbE cs v x)* zbE cs v x+j % zbE cs v x) / zbE cs v x)++ dig _ ((j / (x.c * zbE cs v x)* zbE cs v x+j % zbE cs v x) % zbE cs v x);rw[d1,d2,<- h1,<- h3,<- qba,zvF h.inc h.nv]
variable{c:Nat}
theorem zFX{A B:Nat}(hB:0<B)(hj:j<A * c * B):j / (c * B)* B+j % B<A * B:=by
 have hmod:=qa7 j hB;have ha:j / (c * B)<A:=qbQ (by rw[qaS (c * B),<- qa3]; exact hj);have:=qas B (show j / (c * B)+1<=A from ha);rw[qaQ,qa2]at this;omega
theorem zBg{cs us:List Nat}(h:∀ c∈cs,1<=c/\c<=4)(hu:∀ u∈us,u<cs.length):∀ c∈cd cs us,1<=c/\c<=8:=λc hc=>⟨(zgA h hu c hc).1,qaq (zgA h hu c hc).2 (by decide)⟩
def zx4(ns:List NN):List S_api_Factor:=(List.range ns.length).map λv=>(zhh (ns.map (·.c)) v (ns.getD v ⟨0,[],[]⟩)).D
variable{α:Type}
theorem zjc{xs:List α}{d:α}:xs.getD i d=d\/xs.getD i d∈xs:=by
 rw[qag];rcases qa0 i xs.length with h | h
 .rw[qac h];exact .inr (qao h)
 rw[qbx h];exact .inl rfl
theorem zwm{B:Nat}{rows:List (List Nat)}(h:∀ r∈rows,∀ w∈r,w<=60)(j:Nat):zDu B c rows j<=60:=by
 unfold zDu;rcases zjc (xs:=rows) (i:=j / (c * B)* B+j % B) (d:=[])with e | e
 .rw[e]; simp
 rcases zjc (xs:=rows.getD (j / (c * B)* B+j % B) []) (i:=j / B % c) (d:=0)with e2 | e2
 .rw[e2]; omega
 exact h _ e _ e2
theorem zqf{cs:List Nat}{x:NN}(h:FacOk cs v x):FcOk (zhh cs v x):=by
 have h8:=h.fl8;have hle:=h.le;have hsz:=h.size;refine⟨by simp[zhh,cd],by simp only[zhh,cd,qak]; omega,zBg h.zaF h.flt,?_,?_,zmv h.inc,λu hu=>?_,λw hw=>?_⟩
 .show zac (cd cs (fam x.ps v))<=4096;omega
 .show _=zac (cd cs (fam x.ps v));rw[hsz];simp[zhh]
 .have:=h.flt u hu;have:=h.l8;omega
 obtain⟨j,_,rfl⟩:=qaH.1 hw;have:=zwm (B:=zbE cs v x) (c:=x.c) h.num j;simp only[zc1];omega
theorem zEG{g:Nat}{ns:List NN}{sets os:List Int}(h:RightN g ns):∀(n i:Nat),i<=ns.length->ns.length - i<n ->
  zcN (⟨zbx g ns,iL (ns.map (·.c)),sets,os⟩,0) n (i:Int) (((List.range i).map λv=>(zhh (ns.map (·.c)) v (ns.getD v ⟨0,[],[]⟩)).D)++ List.replicate (ns.length - i) ⟨[],[],[]⟩)=some (zx4 ns)
 | 0,_,_,h=>absurd h (qam _)
 | n+1,i,h1,h2=>by
  have hn:=h.n2;have hnl:(zbx g ns).nodes.length=ns.length:=by simp[zbx]
  unfold zcN;simp only[];rw[hnl,qax,zaT];by_cases hi:i<ns.length
  .have hx:ns[i]? = some (ns.getD i ⟨0,[],[]⟩):=by rw[qag,qac hi]; rfl
   have hf:=h.fac hx;have hlen:(((List.range i).map λv=>(zhh (ns.map (·.c)) v (ns.getD v ⟨0,[],[]⟩)).D)++ List.replicate (ns.length - i) (⟨[],[],[]⟩:S_api_Factor)).length=ns.length:=by simp; omega
   have ih:=zEG (sets:=sets) (os:=os) h n (i+1) hi (by omega);have e:(((List.range i).map λv=>(zhh (ns.map (·.c)) v (ns.getD v ⟨0,[],[]⟩)).D)++ List.replicate (ns.length - i) (⟨[],[],[]⟩:S_api_Factor)).set i (zhh (ns.map (·.c)) i (ns.getD i ⟨0,[],[]⟩)).D=((List.range (i+1)).map λv=>(zhh (ns.map (·.c)) v (ns.getD v ⟨0,[],[]⟩)).D)++ List.replicate (ns.length - (i+1)) ⟨[],[],[]⟩:=by
    rw[qbY _ _ (by simp),qak,qcQ,qce,show ns.length - i=(ns.length - (i+1))+1 by omega,qaX,qbS,List.range_succ,qba,qaE];rfl
   rw[qdv hi,qdt,zEZ hx hf,qaa,zba (by rw[hlen]; exact hi),qaa,zfr (by rw[hlen]; exact hi),qaa,zai (by omega),e,ih]
  have:i=ns.length:=by omega
  subst this;rw[qdw (qca _),qdu,qce,qcH,qaP];rfl
theorem ztk(h:RightN g ns):zd2 (zbx g ns)=some (zx4 ns,0):=by
 obtain⟨os,_,_,e⟩:=zqS h;have hn:=h.n2;have hnl:(zbx g ns).nodes.length=ns.length:=by simp[zbx]
 have e1:=zEG (sets:=iL (zan ns)) (os:=iL os) h (ns.length+2) 0 (qau _) (by omega);rw[show((0:Nat):Int)=0 from rfl,List.range_zero,qdq,qaU,qdf]at e1;unfold zd2;rw[e,qaa];simp only[];rw[show((0:Int)== 0)=true from rfl,qdt,hnl,zdn (by omega),qaa,qax,zaK,e1,qaa]
def zun(cs:List Nat)(x:NN)(s:Nat->Nat):Nat:=dot (x.ps.map s) (zaJ (cd cs x.ps))
theorem zB4{cs:List Nat}{x:NN}{u:Nat}(hu:u∈fam x.ps v):at_ (zhh cs v x).vs (zhh cs v x).cs u=cs.getD u 0:=zin (h:=λp=>cs.getD p 0) hu
variable{s:Nat->Nat}
theorem zm3{cs:List Nat}{v:Nat}{x:NN}(h:FacOk cs v x)(hs:∀ u∈fam x.ps v,s u<cs.getD u 0):(zhh cs v x).val s=(x.rows.getD (zun cs x s) []).getD (s v) 0/\zun cs x s<x.rows.length:=by
 have hok:=zqf h;have hb:zc6 (cd cs (fam x.ps v)) ((fam x.ps v).map s):=Fit.below hok (f:=zhh cs v x) λu hu=>by rw[zB4 hu]; exact hs u hu
 have hlt:=zkW hb;have hdig:=zmO hb;have hj:dot ((fam x.ps v).map s) (zaJ (cd cs (fam x.ps v)))<zt9 cs v x * x.c * zbE cs v x:=by rw[<- h.size]; exact hlt
 obtain⟨k1,k2⟩:=zvC h (F:=s) hj hdig.symm;have hkl:=zFX h.B0 hj;have hps:zac (cd cs x.ps)=zt9 cs v x * zbE cs v x:=by rw[<- h.len,h.zGt]
 have hr:zun cs x s=dot ((fam x.ps v).map s) (zaJ (cd cs (fam x.ps v))) / (x.c * zbE cs v x)* zbE cs v x+dot ((fam x.ps v).map s) (zaJ (cd cs (fam x.ps v))) % zbE cs v x:=by
  unfold zun;rw[k2,zjk (zBg h.zaF h.lt) (by rw[hps]; exact hkl)]
 refine⟨?_,by rw[hr,h.zGt]; exact hkl⟩;show(zhh cs v x).get (dot ((fam x.ps v).map s) (zaJ (cd cs (fam x.ps v))))=_;rw[hr,k1];unfold Fc.get zhh;simp only[];rw[get_map hj];rfl
theorem zzs{cs:List Nat}{x:NN}(h:FacOk cs v x)(i:Nat):(zhh cs v x).get i<=60:=by
 unfold Fc.get;rcases zjc (xs:=(zhh cs v x).ws) (i:=i) (d:=0)with e | e
 .rw[e]; omega
 obtain⟨j,_,e2⟩:=qaH.1 e;rw[<- e2];exact zwm h.num j
theorem zrj(xs:List Nat):big false xs=xs.sum:=by
 induction xs with
 | nil=>rfl
 | cons x xs ih=>rw[zsw,ih]; rfl
theorem zCw{r:List Nat}(h:r.length=c):(List.range' 0 c).map (λp=>r.getD p 0)=r:=by
 refine qbJ (by simp[h]) λi h1 h2=>?_
 simp[qag,h2]
theorem zsI:∀(cs:List Nat),(∀ c∈cs,1<=c)->dot (cs.map (· - 1)) (zaJ cs)+1=zac cs
 | [],_=>rfl
 | c :: cs,h=>by
  have ih:=zsI cs λd hd=>h d (qah c hd)
  have hc:=h c qaj;show(c - 1)* zac cs+dot (cs.map (· - 1)) (zaJ cs)+1=c * zac cs;have:c * zac cs=(c - 1)* zac cs+zac cs:=by
   conv=>lhs; rw[show c=(c - 1)+1 by omega,qaQ,qa2]
  omega
def znL(cs:List Nat)(us:List Nat)(s:Nat->Nat)(u:Nat):Nat:=bif decide (u∈us)then cs.getD u 0 - 1 else s u
structure Fixd (cs:List Nat) (v:Nat) (x:NN) (i:Nat) (f:Fc):Prop where
 ok:FcOk f
 vs:f.vs=(fam x.ps v).filter λu=>!decide (u∈x.ps.take i)
 cs_:f.cs=cd cs f.vs
 val:∀ s,(∀ u∈f.vs,s u<cs.getD u 0)->f.val s=(zhh cs v x).val (znL cs (x.ps.take i) s)
theorem Fixd.zero{cs:List Nat}{x:NN}(h:FacOk cs v x):Fixd cs v x 0 (zhh cs v x):=by
 refine⟨zqf h,?_,rfl,λs _=>?_⟩
 .rw[qb0];exact(qc2.2 λu _=>by simp).symm
 refine val_congr λu _=>?_
 unfold znL;rw[qb0,qdw (by simp),qdu]
theorem zjb{cs:List Nat}(h:∀ c∈cs,1<=c/\c<=4){u:Nat}(hu:u<cs.length):1<=cs.getD u 0/\cs.getD u 0<=4:=zgA (us:=[u]) h (λw hw=>by rw[qaJ.1 hw]; exact hu) _ (qaJ.2 rfl)
variable{xs:List Nat}
theorem zoz(h:j<xs.length):xs[j]=xs.getD j 0:=by
 rw[qag,qac h];rfl
variable{f:Fc}
theorem Fixd.last{cs:List Nat}{x:NN}(h:FacOk cs v x)(hf:Fixd cs v x x.ps.length f):f.ws=x.rows.getD (x.rows.length - 1) []:=by
 have hvs:f.vs=[v]:=by
  rw[hf.vs,qbX];refine zi4 (qaK _ (zmv h.inc)) (by simp) λu=>?_
  simp only[qaA,zef,qbh,decide_eq_false_iff_not,qaJ];constructor
  .rintro⟨h1 | h1,h2⟩
   .exact h1
   exact absurd h1 h2
  rintro rfl;exact⟨.inl rfl,h.nv⟩
 have hcs:f.cs=[x.c]:=by rw[hf.cs_,hvs]; show [cs.getD v 0]=_; rw[h.cv]
 have hc1:=h.c1;have hsz:=hf.ok.size;have hp1:zac f.cs=x.c:=by rw[hcs]; simp[zac]
 have h1:1<=x.rows.length:=by rw[h.len]; exact zdV λc hc=>(zgA h.zaF h.lt c hc).1
 have hrl:(x.rows.getD (x.rows.length - 1) []).length=x.c:=by
  rw[qag,qac (by omega)];exact h.row _ (qao _)
 refine qbJ (by rw[hsz,hp1,hrl]) λj a b=>?_
 have hj:j<zac f.cs:=by rw[<- hsz]; exact a
 have hjc:j<x.c:=by rw[<- hp1]; exact hj
 have e1:=zuA hf.ok hj;have hat:at_ f.vs (dig f.cs j) v=j:=by
  rw[hvs,hcs];simp[dig,at_,zac]
 rw[hf.val _ λu hu=>?_]at e1
 .have hfit:∀ u∈fam x.ps v,znL cs (x.ps.take x.ps.length) (at_ f.vs (dig f.cs j)) u<cs.getD u 0:=by
   intro u hu;unfold znL;rw[qbX];by_cases e:u∈x.ps
   .have:=(zjb h.zaF (h.lt u e)).1;rw[qdv e,qdt]; omega
   have:u=v:=(zef.1 hu).resolve_right e;subst this;rw[qdw e,qdu,hat,h.cv];exact hjc
  obtain⟨k1,k2⟩:=zm3 h hfit;have k3:zun cs x (znL cs (x.ps.take x.ps.length) (at_ f.vs (dig f.cs j)))=x.rows.length - 1:=by
   unfold zun;have:x.ps.map (znL cs (x.ps.take x.ps.length) (at_ f.vs (dig f.cs j)))=(cd cs x.ps).map (· - 1):=by
    unfold cd;rw[qc3];refine qaT λu hu=>?_
    unfold znL;rw[qbX,qdv hu,qdt];rfl
   rw[this];have:=zsI (cd cs x.ps) λc hc=>(zgA h.zaF h.lt c hc).1
   rw[h.len];omega
  have k4:znL cs (x.ps.take x.ps.length) (at_ f.vs (dig f.cs j)) v=j:=by
   unfold znL;rw[qbX,qdw h.nv,qdu,hat]
  rw[k1,k3,k4]at e1;unfold Fc.get at e1;rw[zoz a,zoz b];exact e1.symm
 rw[hvs]at hu;rw[qaJ.1 hu,hat,h.cv];exact hjc
def zfu:Nat->(Nat->Nat)->Nat
 | 0,_=>0
 | n+1,f=>zfu n f+f n
theorem zb2{f g:Nat->Nat}:∀ {n:Nat},(∀ x,x<n->f x=g x)->zfu n f=zfu n g
 | 0,_=>rfl
 | n+1,h=>by
  unfold zfu;rw[zb2 (n:=n) λx hx=>h x (by omega),h n (by omega)]
theorem zr3{f g:Nat->Nat}:∀ n:Nat,zfu n (λx=>f x+g x)=zfu n f+zfu n g
 | 0=>rfl
 | n+1=>by
  show zfu n (λx=>f x+g x)+(f n+g n)=zfu n f+f n+(zfu n g+g n);rw[zr3 n];omega
theorem zkJ:∀ n:Nat,zfu n (λ_=>0)=0
 | 0=>rfl
 | n+1=>by
  show zfu n (λ_=>0)+0=0;rw[zkJ n]
theorem zoX{f:Nat->Nat->Nat}{m:Nat}:∀ n:Nat,zfu n (λx=>zfu m (f x))=zfu m (λy=>zfu n (λx=>f x y))
 | 0=>(zkJ m).symm
 | n+1=>by
  have:=zoX (f:=f) (m:=m) n;show zfu n (λx=>zfu m (f x))+zfu m (f n)=zfu m (λy=>zfu n (λx=>f x y)+f n y);rw[this,zr3]
theorem zid{a:Nat}{f:Nat->Nat}:∀ n:Nat,zfu n (λx=>a * f x)=a * zfu n f
 | 0=>rfl
 | n+1=>by
  show zfu n (λx=>a * f x)+a * f n=a * (zfu n f+f n);rw[zid n,qdc]
theorem zh9(f:Nat->Nat):∀ n:Nat,zfu n f=((List.range' 0 n).map f).sum
 | 0=>rfl
 | n+1=>by
  rw[List.range'_concat];unfold zfu;rw[zh9 f n];simp
def zji(k:Nat->Nat):List Nat->(Nat->Nat)->((Nat->Nat)->Nat)->Nat
 | [],s,G=>G s
 | v :: vs,s,G=>zfu (k v) λx=>zji k vs (upd s v x) G
theorem zsf{u x:Nat}(h:u≠v):upd (upd s u x) v y=upd (upd s v y) u x:=by
 funext w
 by_cases e1:w=v
 .subst e1;rw[zdB,zfM λe=>h e.symm,zdB]
 rw[zfM e1];by_cases e2:w=u
 .subst e2; rw[zdB,zdB]
 rw[zfM e2,zfM e2,zfM e1]
theorem zpr{k:Nat->Nat}(h:a.Perm b):a.Nodup->∀(s:Nat->Nat) (G:(Nat->Nat)->Nat),zji k a s G=zji k b s G:=by
 induction h with
 | nil=>intro _ s G; rfl
 | cons x _ ih=>
  intro hn s G;exact zb2 λy _=>ih (qaR.1 hn).2 _ G
 | swap x y l=>
  intro hn s G;have hxy:y≠x:=λe=>(qaR.1 hn).1 (e ▸ qaj)
  show zfu (k y) (λp=>zfu (k x) λq=>zji k l (upd (upd s y p) x q) G)=zfu (k x) (λq=>zfu (k y) λp=>zji k l (upd (upd s x q) y p) G);rw[zoX (f:=λp q=>zji k l (upd (upd s y p) x q) G)];exact zb2 λq _=>zb2 λp _=>by rw[zsf hxy]
 | trans h1 _ ih1 ih2=>
  intro hn s G;rw[ih1 hn,ih2 (h1.nodup_iff.1 hn)]
theorem zlR(h:a.Perm b):zac a=zac b:=by
 induction h with
 | nil=>rfl
 | cons x _ ih=>show x * zac _=x * zac _; rw[ih]
 | swap x y l=>
  show y * (x * zac l)=x * (y * zac l);rw[<- qa3,<- qa3,qaS y x]
 | trans _ _ ih1 ih2=>rw[ih1,ih2]
abbrev zdd:NN:=⟨0,[],[]⟩
def wtO(ns:List NN)(L:List Nat)(s:Nat->Nat):Nat:=zac (L.map λv=>(zhh (ns.map (·.c)) v (ns.getD v zdd)).val s)
theorem zqO(ns:List NN)(a b:List Nat)(s:Nat->Nat):wtO ns (a ++ b) s=wtO ns a s * wtO ns b s:=by
 unfold wtO;rw[qba,zfl]
theorem zB3(ns:List NN)(v:Nat)(s:Nat->Nat):wtO ns [v] s=(zhh (ns.map (·.c)) v (ns.getD v zdd)).val s:=by
 unfold wtO;simp[zac]
theorem zh6{ns:List NN}{L:List Nat}{t:Nat->Nat}(h:∀ v∈L,∀ u∈fam (ns.getD v zdd).ps v,s u=t u):wtO ns L s=wtO ns L t:=by
 unfold wtO;rw[qaT λv hv=>val_congr (f:=zhh (ns.map (·.c)) v (ns.getD v zdd)) λu hu=>h v hv u hu]
structure Topo (ns:List NN) (os:List Nat):Prop where
 nod:os.Nodup
 all:os.Perm (List.range ns.length)
 par:∀(pre post:List Nat) (v:Nat),pre ++ v :: post=os->∀ p∈(ns.getD v zdd).ps,p∈pre
theorem zrs{xs:List α}{d:α}(h:i<xs.length):xs.getD i d∈xs:=by
 rw[qag,qac h];exact qao h
theorem zmM(h:v<ns.length):ns[v]? = some (ns.getD v zdd):=by
 rw[qag,qac h];rfl
theorem RightN.zIT(h:RightN g ns):∃ os,Topo ns os:=by
 obtain⟨os,g1,g2,_⟩:=zqS h;have hml:(zan ns).length=ns.length:=by simp[zan]
 have hnod:=g1.nod;have hlt:∀ x∈os,x<ns.length:=λx hx=>by have:=g1.lt x hx; omega
 refine⟨os,hnod,?_,λpre post v e p hp=>?_⟩
 .refine(qcS hnod qcg).2 λx=>?_
  rw[qaW];exact⟨hlt x,λhx=>zq5 hnod g2 hlt x hx⟩
 have hv:os[pre.length]? = some v:=by rw[<- e]; simp
 have hf:=g1 pre.length v hv;have htk:os.take pre.length=pre:=by rw[<- e]; simp
 rw[htk]at hf;have hvn:v<ns.length:=hlt v (by rw[<- e]; simp);have hb:((zan ns).getD v 0).testBit p=true:=by
  have:(zan ns).getD v 0=zeP (ns.getD v zdd).ps:=by
   unfold zan;rw[qag,qa6,zmM hvn];rfl
  rw[this,zf6];exact qdv hp
 have:=hf.ready.2 p hb;rw[zf6]at this;exact of_decide_eq_true this
theorem zBL{ns:List NN}(h:RightN g ns){v:Nat}(hv:v<ns.length)(hs:∀ p∈(ns.getD v zdd).ps,s p<(ns.map (·.c)).getD p 0):
  zfu ((ns.map (·.c)).getD v 0) (λx=>(zhh (ns.map (·.c)) v (ns.getD v zdd)).val (upd s v x))=g:=by
 have hx:=zmM hv;have hf:=h.fac hx;have hm:ns.getD v zdd∈ns:=by
  obtain⟨h1,h2⟩:=qab.1 hx;rw[<- h2]; exact qao h1
 have hro:=h.rows _ hm;have hr:∀ x,zun (ns.map (·.c)) (ns.getD v zdd) (upd s v x)=zun (ns.map (·.c)) (ns.getD v zdd) s:=by
  intro x;unfold zun;rw[qaT λu hu=>zfM (by intro e; have h2:=hu; rw[e]at h2; exact hf.nv h2)]
 have hfit:∀ x,x<(ns.map (·.c)).getD v 0->∀ u∈fam (ns.getD v zdd).ps v,upd s v x u<(ns.map (·.c)).getD u 0:=by
  intro x hxc u hu;by_cases e:u=v
  .subst e; rw[zdB]; exact hxc
  rw[zfM e]; exact hs u ((zef.1 hu).resolve_left e)
 have hc1:=hf.c1;have hcv:=hf.cv;have hlt:zun (ns.map (·.c)) (ns.getD v zdd) s<(ns.getD v zdd).rows.length:=by
  have:=(zm3 hf (hfit 0 (by omega))).2;rw[hr]at this;exact this
 have hrow:(ns.getD v zdd).rows.getD (zun (ns.map (·.c)) (ns.getD v zdd) s) []∈(ns.getD v zdd).rows:=by
  exact zrs hlt
 obtain⟨k1,k2⟩:=hro.row _ hrow;rw[zb2 (g:=λx=>((ns.getD v zdd).rows.getD (zun (ns.map (·.c)) (ns.getD v zdd) s) []).getD x 0) λx hxc=>by rw[(zm3 hf (hfit x hxc)).1,hr,zdB],zh9,hcv,zCw k1,k2]
structure NCs (cs:List Nat):Prop where
 zaF:∀ c∈cs,1<=c/\c<=4
 l8:cs.length<=8
 prod:zac cs<=1024
structure Stc (cs:List Nat) (f:Fc) (M:Nat):Prop where
 ok:FcOk f
 cs_:f.cs=cd cs f.vs
 var:∀ v∈f.vs,v<cs.length
 le:∀ i,f.get i<=M
theorem NCs.vars{cs vs:List Nat}(h:NCs cs)(hi:vs.Pairwise (· < ·))(hv:∀ v∈vs,v<cs.length):zac (cd cs vs)<=1024/\vs.length<=8/\(∀ c∈cd cs vs,1<=c/\c<=8)/\zcH (iL (cd cs vs))=true:=by
 have h1:=qaq (zn3 (λc hc=>(h.zaF c hc).1) hi hv) h.prod;have h2:=qaq (zn2 hi hv) h.l8;have h3:=zBg h.zaF hv
 grind [zcH,zal,cd,zhR]
variable{M:Nat}
theorem Stc.at{cs:List Nat}(h:Stc cs f M)(hv:v∈f.vs):at_ f.vs f.cs v=cs.getD v 0:=by
 rw[h.cs_]
 grind [zin,Go.Dc.cd]
variable{N:Nat}
theorem Stc.agr{cs:List Nat}{g:Fc}(hf:Stc cs f M)(hg:Stc cs g N):Agr f g:=λv h1 h2=>by rw[hf.at h1,hg.at h2]
theorem Stc.ucs{cs:List Nat}{g:Fc}(hf:Stc cs f M)(hg:Stc cs g N):ucs f g=cd cs (uni f g):=by
 refine qaT λv hv=>?_
 rcases(zeL hf.ok hg.ok).1 hv with h | h
 .rw[zG3 h,hf.at h]
 rw[zHm (hf.agr hg) h,hg.at h]
theorem Stc.uv{cs:List Nat}{f g:Fc}(hf:Stc cs f M)(hg:Stc cs g N):∀ v∈uni f g,v<cs.length:=λv hv=>((zeL hf.ok hg.ok).1 hv).elim (hf.var v) (hg.var v)
theorem Stc.zaf{cs:List Nat}{g:Fc}(hc:NCs cs)(hf:Stc cs f M)(hg:Stc cs g N):zcH (iL (Go.Dc.ucs f g))=true:=by
 rw[hf.ucs hg];exact(hc.vars (zi7 f g) (hf.uv hg)).2.2.2
theorem Stc.zqA{cs:List Nat}{g:Fc}(hf:Stc cs f M)(hg:Stc cs g N)(hB:M * N<=zc1):Go.Dc.zqA f g=true:=
 qcs.2 λj _=>qdv (qaq (qbi (hf.le _) (hg.le _)) hB)
theorem Stc.mul{cs:List Nat}{g:Fc}(hc:NCs cs)(hf:Stc cs f M)(hg:Stc cs g N)(hB:M * N<=zc1):Stc cs (ztV f g) (M * N):=by
 refine⟨zBY hf.ok hg.ok (hf.zaf hc hg) (hf.zqA hg hB),hf.ucs hg,hf.uv hg,zg6 λx hx=>?_⟩;obtain⟨j,_,rfl⟩:=qaH.1 hx;exact qbi (hf.le _) (hg.le _)
theorem Stc.zB9{cs:List Nat}{f g:Fc}{M N:Nat}(hc:NCs cs)(hf:Stc cs f M)(hg:Stc cs g N)(hB:M * N<=zc1):zc3 f.D g.D=some ((ztV f g).D,0):=by
 rw[Go.Dc.zB9 hf.ok hg.ok,(zpC hf.ok hg.ok).2 (hf.agr hg),qdt];unfold mulR;rw[hf.zaf hc hg,qdt,hf.zqA hg hB,qdt]
def zjd(cs:List Nat)(s:Nat->Nat):Prop:=∀ v,v<cs.length->s v<cs.getD v 0
theorem Stc.fit{cs:List Nat}(h:Stc cs f M)(hs:zjd cs s):Fit f s:=λv hv=>by rw[h.at hv]; exact hs v (h.var v hv)
theorem Stc.zqx{cs:List Nat}{f g:Fc}{M N:Nat}(hc:NCs cs)(hf:Stc cs f M)(hg:Stc cs g N)(hB:M * N<=zc1){s:Nat->Nat}(hs:zjd cs s):(ztV f g).val s=f.val s * g.val s:=Go.Dc.zqx hf.ok hg.ok (hf.zaf hc hg) ((hf.mul hc hg hB).fit hs)
theorem RightN.ncs(h:RightN g ns):NCs (ns.map (·.c)):=⟨h.cs.zaF,by simpa using h.n2,h.prod⟩
theorem RightN.stc(h:RightN g ns)(hv:v<ns.length):Stc (ns.map (·.c)) (zhh (ns.map (·.c)) v (ns.getD v zdd)) 60:=by
 have hf:=h.fac (zmM hv);exact⟨zqf hf,rfl,hf.flt,zzs hf⟩
def zlv:Fc:=⟨[],[],[1]⟩
theorem zmN(cs:List Nat):Stc cs zlv 1:=by
 refine⟨⟨rfl,by simp[zlv],by simp[zlv],by simp[zlv,zac],rfl,List.Pairwise.nil,by simp[zlv],λw hw=>by rw[qaJ.1 hw]; decide⟩,rfl,by simp[zlv],zg6 (by simp[zlv])⟩
theorem zBV(s:Nat->Nat):zlv.val s=1:=rfl
structure Prf (ns:List NN) (i:Nat) (f:Fc):Prop where
 st:Stc (ns.map (·.c)) f (60 ^ i)
 mem:∀ v,v<i->v∈f.vs
 val:∀ s,zjd (ns.map (·.c)) s->f.val s=wtO ns (List.range i) s
theorem zrQ:∀(cs:List Nat) (w:Nat),zFp cs w=dig cs w
 | [],_=>rfl
 | c :: cs,w=>by
  unfold zFp dig;rw[zrQ cs]
def wld(ns:List NN)(w:Nat):Nat->Nat:=zgF (List.range ns.length) (dig (ns.map (·.c)) w) λ_=>0
theorem zCk(ns:List NN)(w:Nat):(List.range ns.length).map (wld ns w)=dig (ns.map (·.c)) w:=by
 have hl:(List.range ns.length).length=(dig (ns.map (·.c)) w).length:=by rw[zf8]; simp
 simp_all [zpv,qcg,qaT,zqG,wld]
theorem zCd(ns:List NN)(w:Nat){u:Nat}(hu:u<ns.length):wld ns w u=(dig (ns.map (·.c)) w).getD u 0:=by
 grind [zCk]
variable{w:Nat}
theorem zBW(h:RightN g ns)(hw:w<zac (ns.map (·.c))):zjd (ns.map (·.c)) (wld ns w):=by
 intro v hv;have hv':v<ns.length:=by simpa using hv
 rw[zCd ns w hv',<- zrQ];have:=zxV hw v hv
 simp_all
def wtW(ns:List NN)(w:Nat):Nat:=wtO ns (List.range ns.length) (wld ns w)
theorem Prf.get{g:Nat}{ns:List NN}(h:RightN g ns){f:Fc}(hf:Prf ns ns.length f):f.ws.length=zac (ns.map (·.c))/\∀ w,w<zac (ns.map (·.c))->zaE (iL f.ws) (w:Int)=some ((wtW ns w:Nat):Int):=by
 have hvs:f.vs=List.range ns.length:=zi4 hf.st.ok.inc qcO λv=>by
  rw[qaW];exact⟨λhv=>by simpa using hf.st.var v hv,hf.mem v⟩
 have hcs:f.cs=ns.map (·.c):=by
  rw[hf.st.cs_,hvs]
  grind [zsH,qak,Go.Dc.cd]
 have hsz:=hf.st.ok.size;rw[hcs]at hsz;refine⟨hsz,λw hw=>?_⟩;have e:=zuA hf.st.ok (i:=w) (by rw[hcs]; exact hw);have e2:f.val (at_ f.vs (dig f.cs w))=f.val (wld ns w):=by
  refine val_congr λu hu=>?_
  rw[hvs,hcs];rw[hvs]at hu;exact(zqG qcg (by rw[zf8]; simp) hu).symm
 grind [zBW,Prf,wtW,Go.Dc.zaE,Go.Dc.iL,Go.Dc.Fc.get]
theorem Stc.zaF{cs:List Nat}(h:Stc cs f M)(hv:pos f.vs v=some k)(hk:k<f.cs.length):f.cs[k]=cs.getD v 0:=by
 obtain⟨h1,e⟩:=zdC hv;rw[<- zqu h.ok hv hk,h.at (e ▸ qao h1)]
theorem Stc.mono{cs:List Nat}(h:Stc cs f M)(hl:M<=N):Stc cs f N:=⟨h.ok,h.cs_,h.var,λi=>qaq (h.le i) hl⟩
theorem Stc.klt{cs:List Nat}(h:Stc cs f M)(hv:pos f.vs v=some k):k<f.cs.length:=by
 obtain⟨h1,_⟩:=zdC hv;rw[<- h.ok.len]; exact h1
theorem Stc.fix{cs:List Nat}(hf:Stc cs f M)(hv:pos f.vs v=some k)(p:Nat):Stc cs (fixF f v k p) M:=by
 have hk:=hf.klt hv;refine⟨zBy hf.ok hv hk p,?_,λu hu=>hf.var u (qaA.1 hu).1,zg6 λx hx=>?_⟩
 .show f.cs.eraseIdx k=(rest f v).map _;rw[<- zg8 hf.ok hv];exact qaT λu hu=>hf.at (qaA.1 hu).1
 grind [Go.Dc.Stc,Go.Dc.fixF]
theorem Stc.zCZ{cs:List Nat}{f:Fc}{M:Nat}(hf:Stc cs f M){v k p:Nat}(hv:pos f.vs v=some k)(hp:p<cs.getD v 0):zcY f.D (v:Int) (p:Int)=some ((fixF f v k p).D,0):=by
 have hk:=hf.klt hv;exact Go.Dc.zCZ hf.ok hv hk (by rw[hf.zaF hv hk]; exact hp)
theorem Stc.zqe{cs:List Nat}{f:Fc}{M:Nat}(hf:Stc cs f M){v k p:Nat}(hv:pos f.vs v=some k)(hp:p<cs.getD v 0){s:Nat->Nat}(hs:zjd cs s):(fixF f v k p).val s=f.val (upd s v p):=by
 have hk:=hf.klt hv;exact Go.Dc.zqe hf.ok hv hk (by rw[hf.zaF hv hk]; exact hp) λu hu=>hf.fit hs u (qaA.1 hu).1
theorem zhV{cs:List Nat}(hs:zjd cs s){p:Nat}(hp:p<cs.getD v 0):zjd cs (upd s v p):=by
 grind [Go.Dc.zjd,Go.Dc.upd]
def zui(f:Fc)(v:Nat):Fc:=gF f (rest f v) ((gat false f (rest f v)).getD [])
theorem Stc.sum{cs:List Nat}(hf:Stc cs f M)(hB:zac f.cs * M<=zc1)(hv:pos f.vs v=some k):
  zb5 f.D (v:Int)=some ((zui f v).D,0)/\Stc cs (zui f v) (cs.getD v 0 * M)/\∀ s,zjd cs s->(zui f v).val s=zfu (cs.getD v 0) λp=>f.val (upd s v p):=by
 have hk:=hf.klt hv;have hg:=znh false hf.ok (ziE hf.ok v) hf.le hB;have e:zui f v=gF f (rest f v) ((List.range' 0 (zac (cof f (rest f v)))).map λj=>big false (fib f (rest f v) (zac f.cs) 0 j)):=by unfold zui; rw[hg]; rfl
 refine⟨?_,?_,λs hs=>?_⟩
 .rw[zG1 hf.ok hv,hg,e]; rfl
 .rw[e];refine⟨zGn hf.ok (ziE hf.ok v) hg,?_,λu hu=>hf.var u (qaA.1 hu).1,zg6 λx hx=>?_⟩
  .exact qaT λu hu=>hf.at (qaA.1 hu).1
  obtain⟨j,hj,rfl⟩:=qaH.1 hx;have hj':=(qcP.1 hj).2;rw[zg8 hf.ok hv,qaO]at hj';rw[zss hf.ok hv hk hj'];refine qaq (zxy (M:=M) λy hy=>?_) (qas M ?_)
  .grind [Go.Dc.Stc]
  rw[qak,List.length_range',hf.zaF hv hk];exact qap _
 have h:=Go.Dc.zBT false hf.ok hv hk hf.le hB hg (s:=s) λu hu=>hf.fit hs u (qaA.1 hu).1
 rw[e,h,zrj,hf.zaF hv hk,zh9]
theorem zzt{u:Nat}:u∈(zui f v).vs↔u∈f.vs/\u≠v:=by
 show u∈rest f v↔_
 grind [rest]
structure Lok (cs:List Nat) (ps:List (Fc×Nat)):Prop where
 st:∀ p∈ps,Stc cs p.1 p.2
 one:∀ p∈ps,1<=p.2
abbrev bnd(ps:List (Fc×Nat)):Nat:=zac (ps.map (·.2))
variable{ps:List (Fc×Nat)}
theorem Lok.zDH{cs:List Nat}(h:Lok cs ps):1<=bnd ps:=zdV λx hx=>by
 grind [Lok]
theorem Lok.tail{cs:List Nat}{p:Fc×Nat}(h:Lok cs (p :: ps)):Lok cs ps:=⟨λq hq=>h.st q (qah _ hq),λq hq=>h.one q (qah _ hq)⟩
theorem Lok.sub{cs:List Nat}{qs:List (Fc×Nat)}(h:Lok cs ps)(hs:∀ q∈qs,q∈ps):Lok cs qs:=⟨λq hq=>h.st q (hs q hq),λq hq=>h.one q (hs q hq)⟩
theorem Lok.app{cs:List Nat}{qs:List (Fc×Nat)}(h:Lok cs ps)(h':Lok cs qs):Lok cs (ps ++ qs):=
 ⟨λq hq=>(qa9.1 hq).elim (h.st q) (h'.st q),λq hq=>(qa9.1 hq).elim (h.one q) (h'.one q)⟩
def zxe:Fc->List (Fc×Nat)->Fc
 | a,[]=>a
 | a,p :: ps=>zxe (ztV a p.1) ps
def gL(ps:List (Fc×Nat))(s:Nat->Nat):Nat:=zac (ps.map λp=>p.1.val s)
theorem zBO(p:Fc×Nat)(ps:List (Fc×Nat))(s:Nat->Nat):gL (p :: ps) s=p.1.val s * gL ps s:=rfl
theorem zDZ(ps qs:List (Fc×Nat))(s:Nat->Nat):gL (ps ++ qs) s=gL ps s * gL qs s:=by
 grind [gL,zfl]
theorem zjK(p:Fc×Nat)(ps:List (Fc×Nat)):bnd (p :: ps)=p.2 * bnd ps:=rfl
theorem zrF{cs:List Nat}(hc:NCs cs):∀ {ps:List (Fc×Nat)} {a:Fc} {A:Nat},Stc cs a A->Lok cs ps->A * bnd ps<=zc1->Stc cs (zxe a ps) (A * bnd ps)
 | [],a,A,ha,_,_=>by
  show Stc cs a (A * 1)
  simp_all
 | p :: ps,a,A,ha,h,hB=>by
  have h1:=h.tail.zDH;rw[zjK,<- qa3]at hB ⊢;have hB1:A * p.2<=zc1:=qaq (qaI _ h1) hB;exact zrF hc (ha.mul hc (h.st p qaj) hB1) h.tail hB
theorem zs7{cs:List Nat}(hc:NCs cs):∀ {ps:List (Fc×Nat)} {a:Fc} {A:Nat},Stc cs a A->Lok cs ps->A * bnd ps<=zc1->∀ s,zjd cs s->(zxe a ps).val s=a.val s * gL ps s
 | [],a,A,_,_,_,s,_=>(qb7 _).symm
 | p :: ps,a,A,ha,h,hB,s,hs=>by
  have h1:=h.tail.zDH;rw[zjK,<- qa3]at hB;have hB1:A * p.2<=zc1:=qaq (qaI _ h1) hB;have hp:=h.st p qaj;show(zxe (ztV a p.1) ps).val s=_;rw[zs7 hc (ha.mul hc hp hB1) h.tail hB s hs,ha.zqx hc hp hB1 hs,zBO,qa3]
theorem zsz{cs:List Nat}(hc:NCs cs){u:Nat}:∀ {ps:List (Fc×Nat)} {a:Fc} {A:Nat},Stc cs a A->Lok cs ps->A * bnd ps<=zc1->(u∈(zxe a ps).vs↔u∈a.vs\/∃ p∈ps,u∈p.1.vs)
 | [],a,A,_,_,_=>by simp[zxe]
 | p :: ps,a,A,ha,h,hB=>by
  have h1:=h.tail.zDH;rw[zjK,<- qa3]at hB;have hB1:A * p.2<=zc1:=qaq (qaI _ h1) hB;have hp:=h.st p qaj;show u∈(zxe (ztV a p.1) ps).vs↔_;rw[zsz hc (ha.mul hc hp hB1) h.tail hB,show(u∈(ztV a p.1).vs↔u∈a.vs\/u∈p.1.vs)from zeL ha.ok hp.ok]
  grind
def zeI(ps:List (Fc×Nat)):Fc:=zxe zlv ps
theorem zkr{cs:List Nat}(hc:NCs cs)(h:Lok cs ps)(hB:bnd ps<=zc1):Stc cs (zeI ps) (bnd ps):=by
 have:=zrF hc (zmN cs) h (by rw[qa2]; exact hB)
 rwa [qa2]at this
theorem zpG{cs:List Nat}(hc:NCs cs)(h:Lok cs ps)(hB:bnd ps<=zc1)(hs:zjd cs s):(zeI ps).val s=gL ps s:=by
 have:=zs7 hc (zmN cs) h (by rw[qa2]; exact hB) s hs
 rwa [zBV,qa2]at this
theorem ziG{cs:List Nat}(hc:NCs cs){ps:List (Fc×Nat)}(h:Lok cs ps)(hB:bnd ps<=zc1){u:Nat}:u∈(zeI ps).vs↔∃ p∈ps,u∈p.1.vs:=by
 have:=zsz hc (u:=u) (zmN cs) h (by rw[qa2]; exact hB)
 grind [zeI,Go.Dc.zlv]
def occ(ps:List (Fc×Nat))(x:Nat):Bool:=ps.any λp=>decide (x∈p.1.vs)
theorem zi0{ps:List (Fc×Nat)}{x:Nat}:occ ps x=true↔∃ p∈ps,x∈p.1.vs:=by
 grind [occ]
def zcy(x:Nat)(ps:List (Fc×Nat)):List (Fc×Nat):=ps.filter λp=>decide (x∈p.1.vs)
def zfG(x:Nat)(ps:List (Fc×Nat)):List (Fc×Nat):=ps.filter λp=>!decide (x∈p.1.vs)
theorem ziR{α:Type}(g:α->Nat)(q:α->Bool):∀ xs:List α,zac ((xs.filter q).map g)* zac ((xs.filter λx=>!q x).map g)=zac (xs.map g)
 | []=>rfl
 | x :: xs=>by
  have ih:=ziR g q xs
  grind [zac]
def ziI(k:Nat->Nat)(x:Nat)(ps:List (Fc×Nat)):List (Fc×Nat):=zfG x ps ++ [(zui (zeI (zcy x ps)) x,k x * bnd (zcy x ps))]
theorem zgZ{x:Nat}{ps:List (Fc×Nat)}:∀ q∈zcy x ps,q∈ps:=λq hq=>(qaA.1 hq).1
theorem zia{x:Nat}{ps:List (Fc×Nat)}:∀ q∈zfG x ps,q∈ps:=λq hq=>(qaA.1 hq).1
theorem zsY{x:Nat}{ps:List (Fc×Nat)}:∀ q∈zfG x ps,x ∉ q.1.vs:=λq hq=>by
 grind [zfG]
theorem zoq(x:Nat)(ps:List (Fc×Nat)):bnd (zcy x ps)* bnd (zfG x ps)=bnd ps:=ziR (·.2) _ ps
theorem zyV(x:Nat)(ps:List (Fc×Nat))(s:Nat->Nat):gL (zcy x ps) s * gL (zfG x ps) s=gL ps s:=ziR (α:=Fc×Nat) (λp=>p.1.val s) (λp=>decide (x∈p.1.vs)) ps
theorem zyl{ps:List (Fc×Nat)}{t:Nat->Nat}(h:∀ p∈ps,∀ v∈p.1.vs,s v=t v):gL ps s=gL ps t:=by
 unfold gL;rw[qaT λp hp=>val_congr (f:=p.1) λv hv=>h p hp v hv]
structure Est (cs:List Nat) (C:Nat) (E:List Nat) (ps:List (Fc×Nat)):Prop where
 lok:Lok cs ps
 nod:E.Nodup
 lt:∀ x∈E,x<cs.length
 out:∀ p∈ps,∀ v∈p.1.vs,v ∉ E
 b:bnd ps<=C * zac (cd cs E)
theorem zmm{cs:List Nat}(hc:NCs cs){E:List Nat}(hn:E.Nodup)(hl:∀ x∈E,x<cs.length):zac (cd cs E)<=1024:=by
 have hp:E.Perm ((List.range cs.length).filter λx=>decide (x∈E)):=by
  grind [qcg]
 have e:zac (cd cs E)=zac (cd cs ((List.range cs.length).filter λx=>decide (x∈E))):=zlR (hp.map _);rw[e];exact qaq (zn3 (λc hc'=>(hc.zaF c hc').1) (qaK _ qcO) λu hu=>qaW.1 (qaA.1 hu).1) hc.prod
variable{E:List Nat}
theorem Est.tot{cs:List Nat}(hc:NCs cs){C:Nat}(hC:C * 1024<=zc1)(h:Est cs C E ps):bnd ps<=zc1:=
 qaq h.b (qaq (qco C (zmm hc h.nod h.lt)) hC)
theorem zw6{cs:List Nat}{x:Nat}(h:Lok cs ps):bnd (zcy x ps)<=bnd ps:=by
 rw[<- zoq x ps];exact qaI _ (h.sub zia).zDH
theorem Est.size{cs:List Nat}(hc:NCs cs){C:Nat}(hC:C * 1024<=zc1){qs:List (Fc×Nat)}(h:Est cs C E ps)(hq:∀ q∈qs,q∈ps)(hb:bnd qs<=bnd ps):zac (zeI qs).cs * bnd qs<=zc1:=by
 have hl:=h.lok.sub hq;have hB:bnd qs<=zc1:=qaq hb (h.tot hc hC);have hs:=zkr hc hl hB;rw[hs.cs_];have hd:∀ u∈(zeI qs).vs,u ∉ E:=λu hu=>by
  obtain⟨p,hp,hup⟩:=(ziG hc hl hB).1 hu;exact h.out p (hq p hp) u hup
 have hn:((zeI qs).vs ++ E).Nodup:=qb9.2 ⟨zbn hs.ok.inc,h.nod,λa ha b hb e=>hd a ha (e ▸ hb)⟩;have hp:=zmm hc hn λu hu=>(qa9.1 hu).elim (hs.var u) (h.lt u)
 rw[zoY,zfl]at hp;calc zac (cd cs (zeI qs).vs)* bnd qs<=zac (cd cs (zeI qs).vs)* (C * zac (cd cs E)):=qco _ (qaq hb h.b)
  _=C * (zac (cd cs (zeI qs).vs)* zac (cd cs E)):=Nat.mul_left_comm _ _ _
  _<=C * 1024:=qco C hp
  _<=zc1:=hC
theorem zsA{x:Nat}:occ ps x=true↔zcy x ps≠[]:=by
 simp_all [zcy,occ]
theorem Est.step{cs:List Nat}(hc:NCs cs){C:Nat}(hC:C * 1024<=zc1){E:List Nat}{ps:List (Fc×Nat)}(h:Est cs C E ps){x:Nat}(hx:occ ps x=true)(hxE:x ∉ E):
  zb5 (zeI (zcy x ps)).D (x:Int)=some ((zui (zeI (zcy x ps)) x).D,0)/\Est cs C (x :: E) (ziI (λv=>cs.getD v 0) x ps)/\
   (∀ s,zjd cs s->gL (ziI (λv=>cs.getD v 0) x ps) s=zfu (cs.getD x 0) λp=>gL ps (upd s x p))/\∀ y,y≠x->occ (ziI (λv=>cs.getD v 0) x ps) y=occ ps y:=by
 obtain⟨p0,hp0,hxp⟩:=zi0.1 hx;have hxl:x<cs.length:=(h.lok.st p0 hp0).var x hxp;have hlw:=h.lok.sub (zgZ (x:=x));have hlr:=h.lok.sub (zia (x:=x));have hbw:=zw6 (x:=x) h.lok;have hB:bnd (zcy x ps)<=zc1:=qaq hbw (h.tot hc hC);have hs:=zkr hc hlw hB;have hsz:=h.size hc hC zgZ hbw;have hxv:x∈(zeI (zcy x ps)).vs:=(ziG hc hlw hB).2 ⟨p0,qaA.2 ⟨hp0,qdv hxp⟩,hxp⟩;obtain⟨k,hk⟩:=zkK hxv;obtain⟨g1,g2,g3⟩:=hs.sum hsz hk;have hcx:1<=cs.getD x 0:=by
  grind [qao,Go.Dc.NCs]
 have hmem:∀ u,u∈(zui (zeI (zcy x ps)) x).vs↔(∃ p∈zcy x ps,u∈p.1.vs)/\u≠x:=λu=>by rw[zzt,ziG hc hlw hB]
 refine⟨g1,⟨hlr.app ⟨λq hq=>?_,λq hq=>?_⟩,qaR.2 ⟨hxE,h.nod⟩,λy hy=>?_,λq hq u hu=>?_,?_⟩,λs hs'=>?_,λy hy=>?_⟩
 .rw[qaJ.1 hq]; exact g2
 .rw[qaJ.1 hq]; exact qc1 hcx hlw.zDH
 .rcases qav.1 hy with rfl | hy
  .exact hxl
  exact h.lt y hy
 .intro hm;rcases qa9.1 hq with hq | hq
  .rcases qav.1 hm with rfl | hm
   .exact zsY q hq hu
   exact h.out q (zia q hq) u hu hm
  rw[qaJ.1 hq]at hu;obtain⟨⟨p,hp,hup⟩,hne⟩:=(hmem u).1 hu;rcases qav.1 hm with rfl | hm
  .exact hne rfl
  exact h.out p (zgZ p hp) u hup hm
 .show zac ((zfG x ps ++ [(zui (zeI (zcy x ps)) x,cs.getD x 0 * bnd (zcy x ps))]).map (·.2))<=C * (cs.getD x 0 * zac (cd cs E));rw[qba,zfl];show bnd (zfG x ps)* (cs.getD x 0 * bnd (zcy x ps)* 1)<=_;have e:bnd (zfG x ps)* (cs.getD x 0 * bnd (zcy x ps)* 1)=cs.getD x 0 * bnd ps:=by rw[<- zoq x ps,qb7,Nat.mul_left_comm,qaS (bnd (zfG x ps))]
  rw[e,Nat.mul_left_comm];exact qco _ h.b
 .show gL (zfG x ps ++ [(zui (zeI (zcy x ps)) x,cs.getD x 0 * bnd (zcy x ps))]) s=_;rw[zDZ];show gL (zfG x ps) s * ((zui (zeI (zcy x ps)) x).val s * 1)=_;rw[qb7,g3 s hs',<- zid];refine zb2 λp hp=>?_
  rw[zpG hc hlw hB (zhV hs' hp),<- zyV x ps (upd s x p),qaS,zyl (ps:=zfG x ps) (s:=s) (t:=upd s x p) λq hq u hu=>(zfM (by rintro rfl; exact zsY q hq hu)).symm]
 have h1:occ (ziI (λv=>cs.getD v 0) x ps) y=true↔occ ps y=true:=by
  rw[zi0,zi0];constructor
  .rintro⟨q,hq,hyq⟩;rcases qa9.1 hq with hq | hq
   .exact⟨q,zia q hq,hyq⟩
   rw[qaJ.1 hq]at hyq;obtain⟨⟨p,hp,hup⟩,_⟩:=(hmem y).1 hyq;exact⟨p,zgZ p hp,hup⟩
  rintro⟨q,hq,hyq⟩;by_cases hxq:x∈q.1.vs
  .exact⟨_,qdj _ (qaJ.2 rfl),(hmem y).2 ⟨⟨q,qaA.2 ⟨hq,qdv hxq⟩,hyq⟩,hy⟩⟩
  exact⟨q,qcW _ (qaA.2 ⟨hq,by rw[qdw hxq]; rfl⟩),hyq⟩
 cases h2:occ ps y with
 | true=>exact h1.2 h2
 | false=>
  cases h3:occ (ziI (λv=>cs.getD v 0) x ps) y with
  | false=>rfl
  | true=>rw[h1.1 h3]at h2; cases h2
theorem zjX{k:Nat->Nat}{G:(Nat->Nat)->Nat}:∀(a b:List Nat) (s:Nat->Nat),zji k (a ++ b) s G=zji k a s λt=>zji k b t G
 | [],_,_=>rfl
 | v :: a,b,s=>zb2 λx _=>zjX a b (upd s v x)
theorem zhb{cs:List Nat}{F G:(Nat->Nat)->Nat}(h:∀ t,zjd cs t->F t=G t):∀(a:List Nat) (s:Nat->Nat),zjd cs s->zji (λv=>cs.getD v 0) a s F=zji (λv=>cs.getD v 0) a s G
 | [],s,hs=>h s hs
 | v :: a,s,hs=>zb2 λx hx=>zhb h a (upd s v x) (zhV hs hx)
theorem zhd{k:Nat->Nat}{F G:(Nat->Nat)->Nat}:∀(a:List Nat) (s:Nat->Nat),(∀ v∈a,∀ t x,F (upd t v x)=F t)->zji k a s (λt=>F t * G t)=F s * zji k a s G
 | [],_,_=>rfl
 | v :: a,s,h=>by
  show zfu (k v) (λx=>zji k a (upd s v x) λt=>F t * G t)=F s * zfu (k v) λx=>zji k a (upd s v x) G
  rw[<- zid];refine zb2 λx _=>?_
  rw[zhd a (upd s v x) λw hw=>h w (qah _ hw),h v qaj]
theorem zmf{k:Nat->Nat}{G:(Nat->Nat)->Nat}{w y:Nat}(h:∀ t,G (upd t w y)=G t):∀(a:List Nat) (s:Nat->Nat),w ∉ a->zji k a (upd s w y) G=zji k a s G
 | [],s,_=>h s
 | v :: a,s,hw=>zb2 λx _=>by
  rw[zsf (λe=>hw (by rw[e]; exact qaj)),zmf h a (upd s v x) λhm=>hw (qah _ hm)]
def zpe(kn:Nat->Bool)(k:Nat->Nat):List (Fc×Nat)->List Nat->List (Nat×Fc)
 | ps,[]=>[(ps.length,zeI ps)]
 | ps,x :: xs=>bif kn x || !occ ps x then zpe kn k ps xs else((zcy x ps).length,zeI (zcy x ps)):: zpe kn k (ziI k x ps) xs
def ziO(kn:Nat->Bool)(k:Nat->Nat):List (Fc×Nat)->List Nat->List (Fc×Nat)
 | ps,[]=>ps
 | ps,x :: xs=>bif kn x || !occ ps x then ziO kn k ps xs else ziO kn k (ziI k x ps) xs
theorem zk7{kn:Nat->Bool}{k:Nat->Nat}:∀(xs:List Nat) (ps:List (Fc×Nat)) (d:Nat×Fc),(zpe kn k ps xs).getLastD d=((ziO kn k ps xs).length,zeI (ziO kn k ps xs))
 | [],ps,d=>rfl
 | x :: xs,ps,d=>by
  unfold zpe ziO;cases hb:(kn x || !occ ps x)with
  | true=>rw[qdt,qdt]; exact zk7 xs ps d
  | false=>rw[qdu,qdu,List.getLastD_cons]; exact zk7 xs _ _
def zgo(kn:Nat->Bool)(ps:List (Fc×Nat))(xs:List Nat):List Nat:=xs.filter λx=>!kn x && occ ps x
theorem zmq{cs:List Nat}(hc:NCs cs){C:Nat}(hC:C * 1024<=zc1){kn:Nat->Bool}:∀(xs:List Nat) (ps:List (Fc×Nat)) (E:List Nat),Est cs C E ps->xs.Nodup->(∀ x∈xs,x ∉ E)->
  (∃ E',Est cs C E' (ziO kn (λv=>cs.getD v 0) ps xs))/\(∀ s,zjd cs s->gL (ziO kn (λv=>cs.getD v 0) ps xs) s=zji (λv=>cs.getD v 0) (zgo kn ps xs) s (gL ps))/\
   ∀ y,occ (ziO kn (λv=>cs.getD v 0) ps xs) y=(occ ps y && !(decide (y∈xs) && !kn y))
 | [],ps,E,h,_,_=>⟨⟨E,h⟩,λs _=>rfl,λy=>by simp[ziO]⟩
 | x :: xs,ps,E,h,hn,hE=>by
  obtain⟨n1,n2⟩:=qaR.1 hn;unfold ziO;cases hb:(kn x || !occ ps x)with
  | true=>
   obtain⟨g1,g2,g3⟩:=zmq hc hC (kn:=kn) xs ps E h n2 λy hy=>hE y (qah _ hy)
   have hf:(!kn x && occ ps x)=false:=by cases h1:kn x<;>cases h2:occ ps x<;>rw[h1,h2]at hb<;>first | rfl | cases hb
   rw[qdt];refine⟨g1,λs hs=>?_,λy=>?_⟩
   .rw[g2 s hs];unfold zgo;rw[qbM (by rw[hf]; decide)]
   .rw[g3 y];by_cases e:y=x
    .subst e;rw[qdw n1,qdv qaj];cases h1:kn y<;>cases h2:occ ps y<;>rw[h1,h2]at hb<;>first | rfl | cases hb
    .congr 3
     simp[e]
  | false=>
   have hk:kn x=false:=by cases h1:kn x<;>rw[h1]at hb<;>first | rfl | cases hb
   have ho:occ ps x=true:=by cases h1:occ ps x<;>rw[h1,hk]at hb<;>first | rfl | cases hb
   obtain⟨s1,s2,s3,s4⟩:=h.step hc hC ho (hE x qaj);obtain⟨g1,g2,g3⟩:=zmq hc hC (kn:=kn) xs (ziI (λv=>cs.getD v 0) x ps) (x :: E) s2 n2 λy hy hm=>by
    rcases qav.1 hm with rfl | hm
    .exact n1 hy
    exact hE y (qah _ hy) hm
   have hl:zgo kn (ziI (λv=>cs.getD v 0) x ps) xs=zgo kn ps xs:=by
    unfold zgo;refine List.filter_congr λy hy=>?_
    rw[s4 y λe=>n1 (e ▸ hy)]
   have hl2:zgo kn ps (x :: xs)=x :: zgo kn ps xs:=by
    unfold zgo;rw[qbN (by rw[hk,ho]; rfl)]
   have hln:(x :: zgo kn ps xs).Nodup:=qaR.2 ⟨λhm=>n1 (qaA.1 hm).1,qaK _ n2⟩;rw[qdu];refine⟨g1,λs hs=>?_,λy=>?_⟩
   .rw[g2 s hs,hl,hl2,zhb (G:=λt=>zji (λv=>cs.getD v 0) [x] t (gL ps)) (λt ht=>s3 t ht) _ s hs,<- zjX];exact(zpr (List.perm_append_comm (l₁:=[x])) hln s (gL ps)).symm
   rw[g3 y];by_cases e:y=x
   .subst e;have hno:occ (ziI (λv=>cs.getD v 0) y ps) y=false:=by
     cases h1:occ (ziI (λv=>cs.getD v 0) y ps) y with
     | false=>rfl
     | true=>
      obtain⟨q,hq,hyq⟩:=zi0.1 h1;exact absurd qaj (s2.out q hq y hyq)
    rw[hno,ho,hk,qdv qaj];rfl
   rw[s4 y e];congr 3
   simp[e]
theorem zvy{pre post:List α}{x:α}:zaE (pre ++ x :: post) ((pre.length:Nat):Int)=some x:=by
 unfold zaE;rw[if_pos (qbR _),qax,qaV (qap _),qce];rfl
def dL(ps:List (Fc×Nat)):List S_api_Factor:=ps.map λp=>p.1.D
theorem zpz(ps:List (Fc×Nat)):(dL ps).length=ps.length:=qak _
theorem zFn(ps qs:List (Fc×Nat)):dL (ps ++ qs)=dL ps ++ dL qs:=qba
theorem zxn{cs:List Nat}(hc:NCs cs):∀(n:Nat) (pre:List S_api_Factor) (post:List (Fc×Nat)) (a:Fc) (A:Nat),Stc cs a A->Lok cs post->A * bnd post<=zc1->post.length<n->pre.length+post.length<9223372036854775807 ->
  zaU (pre ++ dL post) n ((pre.length:Nat):Int) a.D.vars a.D.zaf a.D.w=some ((zxe a post).D.vars,(zxe a post).D.zaf,(zxe a post).D.w)
 | 0,_,_,_,_,_,_,_,h,_=>absurd h (qam _)
 | n+1,pre,[],a,A,_,_,_,_,_=>by
  unfold zaU;rw[show decide (((pre.length:Nat):Int)<(((pre ++ dL []).length:Nat):Int))=false from qdw (by simp[dL]),qdu];rfl
 | n+1,pre,p :: post,a,A,ha,h,hB,hn,hl=>by
  unfold zaU;have h1:=h.tail.zDH;rw[zjK,<- qa3]at hB;have hB1:A * p.2<=zc1:=qaq (qaI _ h1) hB;have hp:=h.st p qaj;simp only[qaB]at hn hl;rw[show decide (((pre.length:Nat):Int)<(((pre ++ dL (p :: post)).length:Nat):Int))=true from qdv (by simp only[dL,qaL,qaz,qaB,qak]; omega),qdt];rw[show dL (p :: post)=p.1.D :: dL post from rfl,zvy,qaa];show((zc3 a.D p.1.D).bind _)=_;rw[ha.zB9 hc hp hB1,qaa,zai (by omega)];have:=zxn hc n (pre ++ [p.1.D]) post (ztV a p.1) (A * p.2) (ha.mul hc hp hB1) h.tail hB (by omega) (by simp only[qaz,qaB,qa8]; omega);rw[qaE,qaN,qaz]at this;exact this
theorem zzW{cs:List Nat}(hc:NCs cs)(h:Lok cs ps)(hB:bnd ps<=zc1)(hl:ps.length<9223372036854775807):zbj (dL ps)=some (zeI ps).D:=by
 unfold zbj;rw[show zdN=some zlv.D from rfl,qaa,zpz,zaK];have:=zxn hc (ps.length+2) [] ps zlv 1 (zmN cs) h (by rw[qa2]; exact hB) (by omega) (by simpa using hl);rw[qaU]at this;show((zaU (dL ps) (ps.length+2) ((([]:List S_api_Factor).length:Nat):Int) zlv.D.vars zlv.D.zaf zlv.D.w).bind _)=_;rw[this];rfl
theorem zA6(x:Nat):∀(n:Nat) (pre post acc0 acc1:List Nat),post.length<n->pre.length+post.length<1000000000->acc0.length+acc1.length<=pre.length ->
  zat (iL (pre ++ post)) (x:Int) n ((pre.length:Nat):Int) (iL acc0) (iL acc1)=some (iL (acc0 ++ post.filter λv=>v == x),iL (acc1 ++ post.filter λv=>!(v == x)))
 | 0,_,_,_,_,h,_,_=>absurd h (qam _)
 | n+1,pre,[],acc0,acc1,_,_,_=>by
  unfold zat;rw[show decide (((pre.length:Nat):Int)<(((iL (pre ++ [])).length:Nat):Int))=false from qdw (by rw[zal]; simp),qdu];simp
 | n+1,pre,v :: post,acc0,acc1,hn,hl,ha=>by
  unfold zat;simp only[qaB]at hn hl;rw[show decide (((pre.length:Nat):Int)<(((iL (pre ++ v :: post)).length:Nat):Int))=true from qdv (by rw[zal]; simp; omega),qdt,zeV,qaa];have h4:zcp (v:Int) (x:Int)=some (v == x):=by
   show some ((v:Int)==(x:Int))=_;congr 1
   rw[qcp];simp only[qdz];omega
  rw[h4,qaa,zai (by omega)];have hr:=zA6 x n (pre ++ [v]) post;cases hv:(v == x)with
  | true=>
   rw[qdt,show zdE 8 (iL acc0) [(v:Int)]=some (iL (acc0 ++ [v]))from by rw[zcU (by rw[zal]; simp; omega)]; simp[iL],qaa,qaa];have:=hr (acc0 ++ [v]) acc1 (by omega) (by simp; omega) (by simp; omega);rw[qaE,qaN,qaz]at this;rw[qbN (p:=λv=>v == x) hv,qbM (p:=λv=>!(v == x)) (by rw[hv]; decide)];rw[qaE,qaN]at this;exact this
  | false=>
   rw[qdu,show zdE 8 (iL acc1) [(v:Int)]=some (iL (acc1 ++ [v]))from by rw[zcU (by rw[zal]; simp; omega)]; simp[iL],qaa,qaa];have:=hr acc0 (acc1 ++ [v]) (by omega) (by simp; omega) (by simp; omega);rw[qaE,qaN,qaz]at this;rw[qbM (p:=λv=>v == x) (by rw[hv]; decide),qbN (p:=λv=>!(v == x)) (by rw[hv]; rfl)];rw[qaE,qaN]at this;exact this
theorem zF7(hf:FcOk f)(x:Nat):zb8 f.D (x:Int)=some (decide (x∈f.vs)):=by
 have hl:f.vs.length<=12:=by rw[hf.len]; exact hf.le
 unfold zb8 zbP;have:=zA6 x (f.vs.length+2) [] f.vs [] [] (by omega) (by simp; omega) (qap _);show((((zat (iL f.vs) (x:Int) (((iL f.vs).length:Int) - 0+2).toNat 0 [] []).bind _)).bind _)=_;rw[zal,zaK];rw[qaU]at this;rw[show zat (iL f.vs) (x:Int) (f.vs.length+2) 0 [] []=_ from this,qaa,qaa];congr 1
 rw[qcp,qdB,qdB,zal];constructor
 .intro h;have h1:0<(f.vs.filter λv=>v == x).length:=by simpa using h
  obtain⟨y,hy⟩:=List.exists_mem_of_length_pos h1;obtain⟨h2,h3⟩:=qaA.1 hy;exact(beq_iff_eq.1 h3)▸ h2
 intro h;have:x∈f.vs.filter λv=>v == x:=qaA.2 ⟨h,qdx _⟩
 have:=List.length_pos_of_mem this;simpa using this
theorem zr5{cs:List Nat}(x:Nat):∀(n:Nat) (pre:List S_api_Factor) (post:List (Fc×Nat)) (acc0 acc1:List S_api_Factor),Lok cs post->post.length<n->pre.length+post.length<1000000000->acc0.length+acc1.length<=pre.length ->
  zbS (pre ++ dL post) (x:Int) n ((pre.length:Nat):Int) acc0 acc1=some (acc0 ++ dL (zcy x post),acc1 ++ dL (zfG x post))
 | 0,_,_,_,_,_,h,_,_=>absurd h (qam _)
 | n+1,pre,[],acc0,acc1,_,_,_,_=>by
  grind [zbS,dL,zcy,zfG]
 | n+1,pre,p :: post,acc0,acc1,h,hn,hl,ha=>by
  unfold zbS;simp only[qaB]at hn hl;rw[show decide (((pre.length:Nat):Int)<(((pre ++ dL (p :: post)).length:Nat):Int))=true from qdv (by simp only[dL,qaL,qaz,qaB,qak]; omega),qdt];rw[show dL (p :: post)=p.1.D :: dL post from rfl,zvy,qaa];have h4:zaV p.1.D (x:Int)=some (decide (x∈p.1.vs)):=by
   unfold zaV;rw[zF7 (h.st p qaj).ok x];rfl
  rw[h4,qaa,zai (by omega)];have hr:=zr5 (cs:=cs) x n (pre ++ [p.1.D]) post;cases hv:decide (x∈p.1.vs)with
  | true=>
   rw[qdt,zcU (by simp; omega),qaa,qaa];have:=hr (acc0 ++ [p.1.D]) acc1 h.tail (by omega) (by simp; omega) (by simp; omega);rw[qaE,qaN,qaz]at this;unfold zcy zfG at this ⊢;rw[qbN (p:=λq:Fc×Nat=>decide (x∈q.1.vs)) hv,qbM (p:=λq:Fc×Nat=>!decide (x∈q.1.vs)) (by rw[hv]; decide)];rw[qaE,qaN]at this;exact this
  | false=>
   rw[qdu,zcU (by simp; omega),qaa,qaa];have:=hr acc0 (acc1 ++ [p.1.D]) h.tail (by omega) (by simp; omega) (by simp; omega);rw[qaE,qaN,qaz]at this;unfold zcy zfG at this ⊢;rw[qbM (p:=λq:Fc×Nat=>decide (x∈q.1.vs)) (by rw[hv]; decide),qbN (p:=λq:Fc×Nat=>!decide (x∈q.1.vs)) (by rw[hv]; rfl)];rw[qaE,qaN]at this;exact this
theorem zBf{cs:List Nat}(h:Lok cs ps)(hl:ps.length<1000000)(x:Nat):zcX (dL ps) (x:Int)=some (dL (zcy x ps),dL (zfG x ps)):=by
 unfold zcX;have:=zr5 (cs:=cs) x (ps.length+2) [] ps [] [] h (by omega) (by simp; omega) (qap _)
 grind [dL]
theorem zuF(x:Nat)(ps:List (Fc×Nat)):(zcy x ps).length+(zfG x ps).length=ps.length:=by
 induction ps<;>grind [zcy,zfG]
theorem zf5{cs:List Nat}(hc:NCs cs){C:Nat}(hC:C * 1024<=zc1){q:S_eliminate_query}{kn:Nat->Bool}:∀(xs:List Nat) (ps:List (Fc×Nat)) (E:List Nat),Est cs C E ps->xs.Nodup->(∀ x∈xs,x ∉ E)->ps.length<1000000 ->
  (∀ x∈xs,∃ kx,zaE q.known (x:Int)=some kx/\kn x=decide (0<=kx))->
  ∃ u,zfI q (dL ps) (iL xs)=some u/\u.map (·.1)=(zpe kn (λv=>cs.getD v 0) ps xs).map λe=>(⟨(e.1:Int),e.2.D⟩:StR)
 | [],ps,E,h,_,_,hl,_=>by
  refine⟨[(⟨((dL ps).length:Int),(zeI ps).D⟩,dL ps)],?_,?_⟩
  .show((zbj (dL ps)).bind _)=_;rw[zzW hc h.lok (h.tot hc hC) (by omega),qaa]
  .simp[zpe,zpz]
 | x :: xs,ps,E,h,hn,hE,hl,hk=>by
  obtain⟨n1,n2⟩:=qaR.1 hn;obtain⟨kx,k1,k2⟩:=hk x qaj;have hE':∀ y∈xs,y ∉ E:=λy hy=>hE y (qah _ hy)
  have hk':∀ y∈xs,∃ kx,zaE q.known (y:Int)=some kx/\kn y=decide (0<=kx):=λy hy=>hk y (qah _ hy)
  rw[show iL (x :: xs)=(x:Int):: iL xs from rfl];unfold zfI zpe;rw[k1,qaa,<- k2];cases hkn:kn x with
  | true=>
   rw[qdt,Bool.true_or,qdt];exact zf5 hc hC xs ps E h n2 hE' hl hk'
  | false=>
   rw[qdu,qdm,zBf h.lok hl x,qaa];have hlw:(dL (zcy x ps)).length=(zcy x ps).length:=zpz _;cases ho:occ ps x with
   | false=>
    have hw:zcy x ps=[]:=by
     grind [zsA]
    have e0:(((dL (zcy x ps)).length:Int)== 0)=true:=by rw[hw]; rfl
    simp only[e0,qdt,qcz];exact zf5 hc hC xs ps E h n2 hE' hl hk'
   | true=>
    have hw:zcy x ps≠[]:=zsA.1 ho;have hwl:0<(zcy x ps).length:=List.length_pos_iff.2 hw;have hpl:=zuF x ps;have e0:(((dL (zcy x ps)).length:Int)== 0)=false:=by
     simp_all
    obtain⟨s1,s2,s3,s4⟩:=h.step hc hC ho (hE x qaj);have hB:bnd (zcy x ps)<=zc1:=qaq (zw6 h.lok) (h.tot hc hC)
    obtain⟨u,u1,u2⟩:=zf5 hc hC (kn:=kn) (q:=q) xs (ziI (λv=>cs.getD v 0) x ps) (x :: E) s2 n2 (λy hy hm=>by
     simp_all) (by unfold ziI; rw[qaz,List.length_singleton]; omega) hk'
    refine⟨(⟨((zcy x ps).length:Int),(zeI (zcy x ps)).D⟩,dL ps):: u,?_,?_⟩
    .simp only[e0,qdu];rw[zzW hc (h.lok.sub zgZ) hB (by omega),qaa,s1,qaa,zcU (by rw[zpz]; simp; omega),qaa]
     grind [dL,ziI]
    simp_all
def knE(e:List Int)(v:Nat):Bool:=decide (0<=e.getD v (-1))
def veE(e:List Int)(v:Nat):Nat:=(e.getD v (-1)).toNat
variable{e:List Int}
theorem EvOk.ve{cs:List Nat}(h:EvOk cs e)(hv:v<cs.length)(hk:knE e v=true):veE e v<cs.getD v 0/\e.getD v (-1)=(veE e v:Int):=by
 have h1:=h.hi v hv;have h2:=of_decide_eq_true hk;unfold veE;omega
def zre(e:List Int)(i:Nat)(f:Fc):Fc:=bif knE e i then(match pos f.vs i with | some k=>fixF f i k (veE e i)| none=>f)else f
def zgH(e:List Int):Nat->Nat->Fc->Fc
 | 0,_,f=>f
 | m+1,i,f=>zgH e m (i+1) (zre e i f)
theorem zmL{cs:List Nat}(hf:Stc cs f M):Stc cs (zre e i f) M:=by
 unfold zre;cases knE e i with
 | false=>exact hf
 | true=>
  rw[qdt];cases hp:pos f.vs i with
  | none=>exact hf
  | some k=>exact hf.fix hp _
theorem zlQ{cs:List Nat}{e:List Int}{M:Nat}:∀(m i:Nat) {f:Fc},Stc cs f M->Stc cs (zgH e m i f) M
 | 0,_,_,h=>h
 | m+1,i,_,h=>zlQ m (i+1) (zmL h)
theorem zBa{cs:List Nat}{q:S_eliminate_query}{e:List Int}(hq:q.known=e)(he:EvOk cs e)(hc:cs.length<=8){M:Nat}:∀(n m i:Nat) {f:Fc},Stc cs f M->i+m=cs.length->m<n ->
  zaw q n (i:Int) f.D.vars f.D.zaf f.D.w=some (.go ((zgH e m i f).D.vars,(zgH e m i f).D.zaf,(zgH e m i f).D.w))
 | 0,_,_,_,_,_,h=>absurd h (qam _)
 | n+1,0,i,f,hf,hi,_=>by
  unfold zaw;rw[hq,he.len,show decide ((i:Int)<((cs.length:Nat):Int))=false from qdw (by omega),qdu];rfl
 | n+1,m+1,i,f,hf,hi,hn=>by
  unfold zaw;have hil:i<e.length:=by rw[he.len]; omega
  have hx:e[i]=e.getD i (-1):=by rw[qag,qac hil]; rfl
  rw[hq,show decide ((i:Int)<((e.length:Nat):Int))=true from qdv (by omega),qdt,zba hil,qaa,hx];have ih:=zBa hq he hc n m (i+1) (zmL (e:=e) (i:=i) hf) (by omega) (by omega);unfold zgH;cases hk:knE e i with
  | false=>
   have h0:e.getD i (-1)<0:=by have:=qdD hk; omega
   have e1:zre e i f=f:=by unfold zre; rw[hk,qdu]
   rw[e1]at ih ⊢;rw[qdv h0,qdt,qaa,qdt,qaa,zai (by omega)];exact ih
  | true=>
   obtain⟨h1,h2⟩:=he.ve (by omega) hk;have h0:¬ e.getD i (-1)<0:=by omega
   rw[qdw h0,qdu];rw[show zb8 (S_api_Factor.mk f.D.vars f.D.zaf f.D.w) (i:Int)=some (decide (i∈f.vs))from zF7 hf.ok i,qaa,qaa];cases hp:pos f.vs i with
   | none=>
    have hm:i ∉ f.vs:=λhm=>by obtain⟨k,hk⟩:=zkK hm; rw[hp]at hk; cases hk
    have e1:zre e i f=f:=by unfold zre; rw[hk,qdt,hp]
    rw[e1]at ih ⊢;rw[qdw hm,qcz,qdt,qaa,zai (by omega)];exact ih
   | some k=>
    have hm:i∈f.vs:=by obtain⟨a,b⟩:=zdC hp; rw[<- b]; exact qao a
    have e1:zre e i f=fixF f i k (veE e i):=by unfold zre; rw[hk,qdt,hp]
    rw[e1]at ih ⊢;rw[qdv hm,qbs,qdu,h2];rw[show zcY (S_api_Factor.mk f.D.vars f.D.zaf f.D.w) (i:Int) (veE e i:Int)=some ((fixF f i k (veE e i)).D,0)from hf.zCZ hp h1,qaa];rw[show(((fixF f i k (veE e i)).D,(0:Int)).2 == 0)=true from rfl,qdt,qaa,zai (by omega)];exact ih
def zAR(ns:List NN)(e:List Int)(v:Nat):Fc:=zgH e ns.length 0 (zhh (ns.map (·.c)) v (ns.getD v zdd))
def zcM(ns:List NN)(e:List Int)(vs:List Nat):List (Fc×Nat):=vs.map λv=>(zAR ns e v,60)
theorem zyW(h:RightN g ns)(hv:v<ns.length):Stc (ns.map (·.c)) (zAR ns e v) 60:=zlQ _ _ (h.stc hv)
theorem zwr{g:Nat}{ns:List NN}(h:RightN g ns){q:S_eliminate_query}{e:List Int}(hq:q.known=e)(he:EvOk (ns.map (·.c)) e){m:Nat}(hm:m<18446744073709551616):∀(n i:Nat) (acc:List (Fc×Nat)),i<=ns.length->ns.length - i<n->acc.length<=i ->
  zaI (zx4 ns,0) (m:Int) q n (i:Int) (dL acc)=some (.go (dL (acc ++ zcM ns e ((List.range' i (ns.length - i)).filter λv=>m.testBit v))))
 | 0,_,_,_,h,_=>absurd h (qam _)
 | n+1,i,acc,hi,hn,ha=>by
  have hn8:=h.n2;have hfl:(zx4 ns).length=ns.length:=by simp[zx4]
  unfold zaI;simp only[];rw[hfl,zaT];rcases qa0 i ns.length with hlt | hge
  .have hget:(zx4 ns)[i]'(by rw[hfl]; exact hlt)=(zhh (ns.map (·.c)) i (ns.getD i zdd)).D:=by simp[zx4]
   rw[qdv hlt,qdt,zba (by rw[hfl]; exact hlt),qaa,hget];obtain⟨q7,s1,s2⟩:=zyN hm (v:=i) (by omega);rw[s1,qaa,s2];have hr:List.range' i (ns.length - i)=i :: List.range' (i+1) (ns.length - (i+1)):=by
    rw[show ns.length - i=(ns.length - (i+1))+1 by omega];exact qb5
   rw[hr];have ih:=zwr h hq he hm n (i+1);cases hb:m.testBit i with
   | false=>
    rw[show(((false:Bool).toNat:Int)== 0)=true from rfl,qdt,qaa,zai (by omega),qbM (p:=λv=>m.testBit v) (by rw[hb]; decide)];exact ih acc hlt (by omega) (by omega)
   | true=>
    rw[show(((true:Bool).toNat:Int)== 0)=false from rfl,qdu,hq,he.len,qak,zaK];have hs:=zBa hq he (by simpa using hn8) (ns.length+2) ns.length 0 (h.stc hlt) (by simp) (by omega);rw[show zaw q (ns.length+2) 0 (zhh (ns.map (·.c)) i (ns.getD i zdd)).D.vars (zhh (ns.map (·.c)) i (ns.getD i zdd)).D.zaf (zhh (ns.map (·.c)) i (ns.getD i zdd)).D.w=_ from hs];simp only[qaa];rw[zcU (by rw[zpz]; simp; omega),qaa,qaa,zai (by omega),qbN (p:=λv=>m.testBit v) hb];have:=ih (acc ++ [(zAR ns e i,60)]) hlt (by omega) (by simp; omega);rw[qaE,zFn acc]at this;exact this
  have:i=ns.length:=by omega
  subst this;rw[qdw (qca _),qdu,qce];simp[zcM]
theorem zDL(h:RightN g ns){q:S_eliminate_query}(hn:q.net=zbx g ns)(hq:q.known=e)(he:EvOk (ns.map (·.c)) e){m:Nat}(hm:m<18446744073709551616):
  zbo q (m:Int)=some (dL (zcM ns e ((List.range ns.length).filter λv=>m.testBit v)),0):=by
 have hfl:(zx4 ns).length=ns.length:=by simp[zx4]
 unfold zbo;rw[hn,ztk h,qaa];simp only[];rw[show((0:Int)== 0)=true from rfl,qdt,hfl,zaK];have:=zwr h hq he hm (ns.length+2) 0 [] (qau _) (by omega) (qap _);rw[show zaI (zx4 ns,0) (m:Int) q (ns.length+2) 0 []=_ from this,qaa,qaU,qdf,<- qcT]
theorem zuv{a x:Nat}:(a ||| 2 ^ x).testBit j=(a.testBit j || decide (x=j)):=by rw[qbw,qb8]
theorem zC1{a x:Nat}(ha:a<18446744073709551616)(hx:x<64):a ||| 2 ^ x<18446744073709551616:=qbu (n:=64) ha (qbj (by decide) hx)
structure OrdOk (n v:Nat) (xs:List Nat):Prop where
 nod:xs.Nodup
 lt:∀ x∈xs,x<n
 ne:∀ x∈xs,x≠v
theorem zzQ(a n:Nat):zac (List.replicate n a)=a ^ n:=by
 induction n with
 | zero=>rfl
 | succ n ih=>rw[qaX]; show a * zac (List.replicate n a)=_; rw[ih,qc5,qaS]
theorem zpJ(h:RightN g ns){vs:List Nat}(hv:∀ v∈vs,v<ns.length)(hl:vs.length<=8):Est (ns.map (·.c)) (60 ^ 8) [] (zcM ns e vs):=by
 refine⟨⟨λp hp=>?_,λp hp=>?_⟩,.nil,(λ_ hx=>nomatch hx),(λ_ _ _ _ hx=>nomatch hx),?_⟩
 .obtain⟨v,hm,rfl⟩:=qaH.1 hp;exact zyW h (hv v hm)
 .obtain⟨v,hm,rfl⟩:=qaH.1 hp;show 1<=60;decide
 have e1:(zcM ns e vs).map (·.2)=List.replicate vs.length 60:=by
  unfold zcM;rw[qc3];exact List.map_const' ..
 show zac ((zcM ns e vs).map (·.2))<=_;rw[e1,zzQ];exact qaq (qbP (by decide) hl) (qdr (qb7 _).symm)
theorem c8:60 ^ 8 * 1024<=zc1:=by decide
def zyY(ns:List NN)(e:List Int)(vs xs:List Nat):List (Nat×Fc):=zpe (knE e) (λv=>(ns.map (·.c)).getD v 0) (zcM ns e vs) xs
theorem zDI{cs:List Nat}(he:EvOk cs e){x:Nat}(hx:x<cs.length):∃ kx,zaE e (x:Int)=some kx/\knE e x=decide (0<=kx):=by
 have hl:x<e.length:=by rw[he.len]; exact hx
 refine⟨e[x],zba hl,?_⟩;unfold knE;rw[qag,qac hl];rfl
theorem zsi{n:Nat}(hn:n<=8):∃ m:Nat,m<18446744073709551616/\IntKind.u64.wrap (((2 ^ n:Nat):Int) - 1)=(m:Int)/\(List.range n).filter (λv=>m.testBit v)=List.range n:=by
 have h1:1<=2 ^ n:=Nat.one_le_two_pow;have h2:2 ^ n<=2 ^ 8:=qbP (by decide) hn;refine⟨2 ^ n - 1,by omega,?_,?_⟩
 .rw[show((2 ^ n:Nat):Int) - 1=((2 ^ n - 1:Nat):Int)from by omega];exact zbY (by omega)
 refine qc2.2 λv hv=>?_
 rw[Nat.testBit_two_pow_sub_one];exact qdv (qaW.1 hv)
theorem zxS(h:RightN g ns)(he:EvOk (ns.map (·.c)) e){vs:List Nat}{v:Nat}(hvs:∀ v∈vs,v<ns.length)(hl:vs.length<=8)(ho:OrdOk ns.length v xs)(hxl:xs.length<=8){q:S_eliminate_query}(hq:q.known=e):
  ∃ u,zoJ q (dL (zcM ns e vs)) (iL xs)=some u/\u.map (·.1)=(zyY ns e vs xs).map λy=>(⟨(y.1:Int),y.2.D⟩:StR):=by
 have hfl:(zcM ns e vs).length=vs.length:=qak _;obtain⟨u,u1,u2⟩:=zf5 (q:=q) (kn:=knE e) h.ncs c8 xs (zcM ns e vs) [] (zpJ h hvs hl) ho.nod (λ_ _ hm=>nomatch hm) (by rw[hfl]; omega) (λx hx=>by rw[hq]; exact zDI he (by simpa using ho.lt x hx));refine⟨u,?_,u2⟩;unfold zoJ;rw[show zfm (iL xs)=some ()from by unfold zfm; rw[if_pos (by rw[zal]; omega)],qaa];exact u1
theorem zyZ{u:Nat}:u∈(zre e i f).vs↔u∈f.vs/\¬ (u=i/\knE e i=true):=by
 unfold zre;cases hk:knE e i with
 | false=>simp
 | true=>
  rw[qdt];cases hp:pos f.vs i with
  | none=>
   have hn:=zh4 hp;constructor
   .exact λh=>⟨h,λ⟨a,_⟩=>hn (a ▸ h)⟩
   .exact λh=>h.1
  | some k=>
   show u∈rest f i↔_;unfold rest;rw[qaA];constructor
   .exact λh=>⟨h.1,λ⟨a,_⟩=>by rw[a,qdx]at h; exact absurd h.2 (by decide)⟩
   exact λh=>⟨h.1,by rw[qdy (λa=>h.2 ⟨a,rfl⟩)]; rfl⟩
theorem zl2{e:List Int}{u:Nat}:∀(m i:Nat) {f:Fc},u∈(zgH e m i f).vs↔u∈f.vs/\¬ (i<=u/\u<i+m/\knE e u=true)
 | 0,i,f=>by
  show u∈f.vs↔_;constructor
  .exact λh=>⟨h,λ⟨a,b,_⟩=>by omega⟩
  .exact λh=>h.1
 | m+1,i,f=>by
  show u∈(zgH e m (i+1) (zre e i f)).vs↔_;rw[zl2 m (i+1),zyZ];constructor
  .rintro⟨⟨h1,h2⟩,h3⟩;refine⟨h1,λ⟨a,b,c⟩=>?_⟩;by_cases ei:u=i
   .exact h2 ⟨ei,ei ▸ c⟩
   exact h3 ⟨by omega,by omega,c⟩
  rintro⟨h1,h2⟩;exact⟨⟨h1,λ⟨a,c⟩=>h2 ⟨by omega,by omega,a ▸ c⟩⟩,λ⟨a,b,c⟩=>h2 ⟨by omega,by omega,c⟩⟩
theorem zr2(h:RightN g ns){u:Nat}:u∈(zAR ns e v).vs↔(u=v\/u∈(ns.getD v zdd).ps)/\¬ (u<ns.length/\knE e u=true):=by
 unfold zAR;rw[zl2,show(zhh (ns.map (·.c)) v (ns.getD v zdd)).vs=fam (ns.getD v zdd).ps v from rfl,zef];constructor
 .exact λ⟨a,b⟩=>⟨a,λ⟨c,d⟩=>b ⟨qau _,by omega,d⟩⟩
 exact λ⟨a,b⟩=>⟨a,λ⟨_,c,d⟩=>b ⟨by omega,d⟩⟩
theorem zoE{g:Nat}{ns:List NN}{e:List Int}(he:EvOk (ns.map (·.c)) e)(hn:ns.length<=8):∀(n i:Nat),i<=ns.length->ns.length - i<n->zbO e (zbx g ns) n (i:Int)=some (.go ())
 | 0,_,_,h=>absurd h (qam _)
 | n+1,i,hi,hf=>by
  have hel:e.length=ns.length:=by rw[he.len,qak]
  unfold zbO;rw[zaT];by_cases hlt:i<ns.length
  .have hie:i<e.length:=by omega
   have hx:e[i]=e.getD i (-1):=by rw[qag,qac hie]; rfl
   have hcc:(ns.map (·.c)).getD i 0=ns[i].c:=by rw[qag,qa6,qac hlt]; rfl
   have h1:=he.lo i (by rw[qak]; exact hlt);have h2:=he.hi i (by rw[qak]; exact hlt);rw[hcc]at h2
   rw[qdv hie,qdt,zba hie,qaa,hx,show decide (e.getD i (-1)< -1)=false from qdw (by omega),qdu,show zaE (zbx g ns).nodes (i:Int)=some (nd ns[i])from zcw hlt,qaa,show(nd ns[i]).zaF=((ns[i].c:Nat):Int)from rfl,
    show decide (((ns[i].c:Nat):Int)<=e.getD i (-1))=false from qdw (by omega),qaa,qdu,zai (by omega)]
   exact zoE he hn n (i+1) hlt (by omega)
  rw[qdw (by omega),qdu]
theorem zCu(h:RightN g ns)(he:EvOk (ns.map (·.c)) e):zbG (zbx g ns) e=some 0:=by
 have hel:e.length=ns.length:=by rw[he.len,qak]
 have hnl:(zbx g ns).nodes.length=ns.length:=by simp[zbx]
 have hE:zet (zbx g ns) e=some true:=by
  unfold zet;rw[hnl,hel,qdx,qdt,zaK,show zbO e (zbx g ns) (ns.length+2) 0=some (.go ())from zoE he h.n2 (ns.length+2) 0 (qau _) (by omega),qaa]
 obtain⟨b,e1,e2⟩:=zBe h e;rw[hE]at e1;cases e1;exact e2
theorem zl8{n v:Nat}{q:S_eliminate_query}{xs:List Nat}(hq:q.net.nodes.length=n)(hn:n<=8)(hv:v<n)(ho:OrdOk n v xs)(hxl:xs.length<=8):∀(m i M:Nat),i<=xs.length->xs.length - i<m->M<18446744073709551616->(∀ j,M.testBit j=(decide (j∈xs.take i)|| decide (v=j)))->
  zaH (iL xs) q m (M:Int) (i:Int)=some (.go ())
 | 0,_,_,_,h,_,_=>absurd h (qam _)
 | m+1,i,M,hi,hf,hM,hb=>by
  unfold zaH;rw[zal,zaT,hq];by_cases hlt:i<xs.length
  .obtain⟨x,hx⟩:∃ x,xs[i]=x:=⟨_,rfl⟩;have hxm:x∈xs:=hx ▸ qao hlt;have h1:=ho.lt x hxm;have h2:=ho.ne x hxm;have hp:2 ^ x<18446744073709551616:=(qbj (by decide) (show x<64 by omega):2 ^ x<2 ^ 64);have htk:xs.take (i+1)=xs.take i ++ [x]:=by rw[List.take_add_one,qac hlt,hx]; rfl
   have hnot:x ∉ xs.take i:=λhm=>by
    have hd:=ho.nod;rw[<- qbZ (i+1) xs,htk]at hd;exact(qb9.1 (qb9.1 hd).1).2.2 x hm x (qaJ.2 rfl) rfl
   obtain⟨q9,s1,s2⟩:=zyN hM (v:=x) (by omega);rw[qdv hlt,qdt,za5 hlt,hx,qaa,show decide (((x:Nat):Int)<0)=false from qdw (by omega),qdu,show decide (((n:Nat):Int)<=((x:Nat):Int))=false from qdw (by omega),qdu,s1,qaa,s2,hb,qdw hnot,show decide (v=x)=false from qdw (λe=>h2 e.symm)];rw[show((((false || false:Bool).toNat:Nat):Int)== 1)=false from rfl];simp only[qaa,qdu];rw[zx5 (by omega),qaa,orU hM hp,zai (by omega)];refine zl8 hq hn hv ho hxl m (i+1) (M ||| 2 ^ x) hlt (by omega) (zC1 hM (by omega)) λj=>?_
   rw[zuv,hb,htk,qcp];simp only[qbt,decide_eq_true_eq,qa9,qaJ];constructor
   .rintro((a | a)| a)
    .exact .inl (.inl a)
    .exact .inr a
    exact .inl (.inr a.symm)
   rintro((a | a)| a)
   .exact .inl (.inl a)
   .exact .inr a.symm
   exact .inl (.inr a)
  rw[qdw hlt,qdu]
theorem zAG(h:RightN g ns)(he:EvOk (ns.map (·.c)) e)(hv:v<ns.length):zb7 (zbx g ns) e (v:Int)=some (⟨zbx g ns,e,(v:Int)⟩,0):=by
 have hnl:(zbx g ns).nodes.length=ns.length:=by simp[zbx]
 unfold zb7;rw[zCu h he,qaa,show((0:Int)== 0)=true from rfl,qdt,show decide (((v:Nat):Int)<0)=false from qdw (by omega),qdu,hnl,show decide (((ns.length:Nat):Int)<=((v:Nat):Int))=false from qdw (by omega),qaa,qdu]
theorem zxg(h:RightN g ns)(he:EvOk (ns.map (·.c)) e)(hv:v<ns.length)(ho:OrdOk ns.length v xs)(hxl:xs.length=ns.length - 1):
  zb7 (zbx g ns) e (v:Int)=some (⟨zbx g ns,e,(v:Int)⟩,0)/\zbp ⟨zbx g ns,e,(v:Int)⟩ (iL xs)=some true:=by
 have hn8:=h.n2;have hnl:(zbx g ns).nodes.length=ns.length:=by simp[zbx]
 refine⟨zAG h he hv,?_⟩;unfold zbp;have hp:2 ^ v<18446744073709551616:=(qbj (by decide) (show v<64 by omega):2 ^ v<2 ^ 64);simp only[hnl]
 rw[zal,zgh (n:=((ns.length:Nat):Int) - 1) (by omega) (by omega),show(((xs.length:Nat):Int)==((ns.length:Nat):Int) - 1)=true from by rw[qdz]; omega,qdt,zx5 (by omega),qaa,zaK,
  show zaH (iL xs) ⟨zbx g ns,e,(v:Int)⟩ (xs.length+2) ((2 ^ v:Nat):Int) 0=some (.go ())from zl8 (by exact hnl) hn8 hv ho (by omega) (xs.length+2) 0 (2 ^ v) (qau _) (by omega) hp (λj=>by simp[qb8]),qaa]
def evS(e:List Int)(s:Nat->Nat)(v:Nat):Nat:=bif knE e v then veE e v else s v
def evR(e:List Int)(i m:Nat)(s:Nat->Nat)(v:Nat):Nat:=bif decide (i<=v/\v<i+m) && knE e v then veE e v else s v
theorem zCr{cs:List Nat}(he:EvOk cs e){m:Nat}(hs:zjd cs s):zjd cs (evR e i m s):=by
 intro v hv;unfold evR;cases hb:(decide (i<=v/\v<i+m) && knE e v)with
 | false=>exact hs v hv
 | true=>exact(he.ve hv (qbE.1 hb).2).1
theorem zCI{cs:List Nat}(he:EvOk cs e)(hs:zjd cs s):zjd cs (evS e s):=by
 intro v hv;unfold evS;cases hb:knE e v with
 | false=>exact hs v hv
 | true=>exact(he.ve hv hb).1
theorem zyw{cs:List Nat}(he:EvOk cs e)(hf:Stc cs f M)(hi:i<cs.length)(hs:zjd cs s):(zre e i f).val s=f.val (evR e i 1 s):=by
 have hR:∀ v,v≠i->evR e i 1 s v=s v:=λv hv=>by
  unfold evR;rw[show decide (i<=v/\v<i+1)=false from qdw (by omega),Bool.false_and,qdu]
 unfold zre;cases hk:knE e i with
 | false=>
  rw[qdu];refine val_congr λv _=>?_
  by_cases ev:v=i
  .subst ev; unfold evR; rw[hk,qc0,qdu]
  .exact(hR v ev).symm
 | true=>
  rw[qdt];cases hp:pos f.vs i with
  | none=>exact val_congr λv hv=>(hR v λev=>zh4 hp (ev ▸ hv)).symm
  | some k=>
   show(fixF f i k (veE e i)).val s=_;rw[hf.zqe hp (he.ve hi hk).1 hs];refine val_congr λv _=>?_
   by_cases ev:v=i
   .subst ev;rw[zdB];unfold evR;rw[hk,show decide (v<=v/\v<v+1)=true from qdv (by omega)];rfl
   rw[zfM ev,hR v ev]
theorem zlF{cs:List Nat}{e:List Int}(he:EvOk cs e){M:Nat}{s:Nat->Nat}(hs:zjd cs s):∀(m i:Nat) {f:Fc},Stc cs f M->i+m<=cs.length->(zgH e m i f).val s=f.val (evR e i m s)
 | 0,i,f,_,_=>val_congr λv _=>by
  unfold evR;rw[show decide (i<=v/\v<i+0)=false from qdw (by omega),Bool.false_and,qdu]
 | m+1,i,f,hf,hl=>by
  show(zgH e m (i+1) (zre e i f)).val s=_;rw[zlF he hs m (i+1) (zmL hf) (by omega),zyw he hf (by omega) (zCr he hs)];refine val_congr λv _=>?_
  unfold evR;cases knE e v with
  | false=>simp
  | true=>
   simp only[Bool.and_true];by_cases c1:v=i
   .subst c1;rw[show decide (v<=v/\v<v+1)=true from qdv (by omega),show decide (v<=v/\v<v+(m+1))=true from qdv (by omega)];rfl
   rw[show decide (i<=v/\v<i+1)=false from qdw (by omega),qdu];congr 1
   rw[qcp,qdB,qdB];omega
theorem zzc(h:RightN g ns)(he:EvOk (ns.map (·.c)) e)(hv:v<ns.length)(hs:zjd (ns.map (·.c)) s):(zAR ns e v).val s=(zhh (ns.map (·.c)) v (ns.getD v zdd)).val (evS e s):=by
 have hst:=h.stc hv;unfold zAR;rw[zlF he hs ns.length 0 hst (by simp)];refine val_congr λu hu=>?_
 have hu':=hst.var u hu;rw[qak]at hu';unfold evR evS;rw[show decide (0<=u/\u<0+ns.length)=true from qdv (by omega),qbF]
theorem zwH(h:RightN g ns)(he:EvOk (ns.map (·.c)) e){L:List Nat}(hL:∀ v∈L,v<ns.length)(hs:zjd (ns.map (·.c)) s):gL (zcM ns e L) s=wtO ns L (evS e s):=by
 unfold gL zcM wtO;rw[qc3];exact congrArg zac (qaT λv hv=>zzc h he (hL v hv) hs)
theorem zxK{x:Nat}(hk:knE e v=false):evS e (upd s v x)=upd (evS e s) v x:=by
 funext u
 by_cases eu:u=v
 .subst eu;unfold evS;rw[hk,qdu,zdB,zdB]
 rw[zfM eu];unfold evS;rw[zfM eu]
theorem zpd{x u:Nat}(h:u≠v):evS e (upd s v x) u=evS e s u:=by
 unfold evS;rw[zfM h]
theorem zAj{g:Nat}{ns:List NN}(h:RightN g ns){e:List Int}:∀(B:List Nat) (s:Nat->Nat),(∀ v∈B,v<ns.length)->(∀ v∈B,knE e v=false)->B.Pairwise (λa b=>b≠a/\b ∉ (ns.getD a zdd).ps)->
  (∀ v,v<ns.length->evS e s v<(ns.map (·.c)).getD v 0)->zji (λv=>(ns.map (·.c)).getD v 0) B s (λt=>wtO ns B (evS e t))=g ^ B.length
 | [],s,_,_,_,_=>rfl
 | v :: B,s,hl,hk,hp,hs=>by
  have hv:=hl v qaj;have hkv:=hk v qaj;obtain⟨p1,p2⟩:=qa4.1 hp;have hpar:∀ p∈(ns.getD v zdd).ps,p<ns.length:=λp hp=>by
   have:=(h.stc hv).var p (zef.2 (.inr hp))
   rwa [qak]at this
  have hstep:∀ x,x<(ns.map (·.c)).getD v 0->zji (λv=>(ns.map (·.c)).getD v 0) B (upd s v x) (λt=>wtO ns (v :: B) (evS e t))=g ^ B.length * (zhh (ns.map (·.c)) v (ns.getD v zdd)).val (upd (evS e s) v x):=λx hx=>by
   have hfit:∀ u,u<ns.length->evS e (upd s v x) u<(ns.map (·.c)).getD u 0:=λu hu=>by
    by_cases eu:u=v
    .subst eu; rw[zxK hkv,zdB]; exact hx
    rw[zpd eu]; exact hs u hu
   have ih:=zAj h B (upd s v x) (λw hw=>hl w (qah _ hw)) (λw hw=>hk w (qah _ hw)) p2 hfit;have e1:∀ t,wtO ns (v :: B) (evS e t)=wtO ns [v] (evS e t)* wtO ns B (evS e t):=λt=>zqO ns [v] B _
   rw[funext e1,zhd (F:=λt=>wtO ns [v] (evS e t)) B (upd s v x) λw hw t y=>zh6 λa ha u hu=>?_,ih,zB3,zxK hkv,qaS];rw[qaJ.1 ha]at hu;obtain⟨q1,q2⟩:=p1 w hw;refine zpd λeu=>?_
   subst eu;exact(zef.1 hu).elim q1 q2
  show zfu ((ns.map (·.c)).getD v 0) (λx=>zji (λv=>(ns.map (·.c)).getD v 0) B (upd s v x) (λt=>wtO ns (v :: B) (evS e t)))=_;rw[zb2 hstep,zid,zBL h hv λp hp=>hs p (hpar p hp),qaB,qc5]
structure Cut (ns:List NN) (e:List Int) (t:Nat) (nd od:Nat->Bool):Prop where
 lt:t<ns.length
 kt:knE e t=false
 nt:nd t=true
 no:∀ u,u<ns.length->nd u=true->od u=true
 up:∀ u,u<ns.length->od u=true->∀ p∈(ns.getD u zdd).ps,od p=true
 kn:∀ u,u<ns.length->knE e u=true->od u=true
 ap:∀ a b w,a<ns.length->b<ns.length->nd a=true->nd b=false->od b=true->(w=a\/w∈(ns.getD a zdd).ps)->(w=b\/w∈(ns.getD b zdd).ps)->knE e w=true
theorem zjJ(h:RightN g ns){L:List Nat}{x:Nat}(hx:x<ns.length):occ (zcM ns e L) x=true↔(∃ a∈L,x=a\/x∈(ns.getD a zdd).ps)/\knE e x=false:=by
 rw[zi0];constructor
 .rintro⟨p,hp,hxp⟩;obtain⟨a,ha,rfl⟩:=qaH.1 hp;obtain⟨h1,h2⟩:=(zr2 h).1 hxp;refine⟨⟨a,ha,h1⟩,?_⟩;cases hk:knE e x with
  | false=>rfl
  | true=>exact absurd ⟨hx,hk⟩ h2
 rintro⟨⟨a,ha,h1⟩,h2⟩;exact⟨_,qaH.2 ⟨a,ha,rfl⟩,(zr2 h).2 ⟨h1,λh3=>by rw[h2]at h3; exact absurd h3.2 (by decide)⟩⟩
theorem zCT(h:RightN g ns)(he:EvOk (ns.map (·.c)) e){t:Nat}{nd od:Nat->Bool}(c:Cut ns e t nd od)(ho:OrdOk ns.length t xs)(hxl:xs.length=ns.length - 1)(hs:zjd (ns.map (·.c)) s):
  ∃ C:Nat,∀ x,x<(ns.map (·.c)).getD t 0 ->
   zji (λv=>(ns.map (·.c)).getD v 0) (zgo (knE e) (zcM ns e (List.range ns.length)) xs) (upd s t x) (gL (zcM ns e (List.range ns.length)))=
   C * zji (λv=>(ns.map (·.c)).getD v 0) (zgo (knE e) (zcM ns e ((List.range ns.length).filter nd)) xs) (upd s t x) (gL (zcM ns e ((List.range ns.length).filter nd))):=by
 obtain⟨os,ht⟩:=h.zIT;have hoslt:∀ v∈os,v<ns.length:=λv hv=>qaW.1 (ht.all.mem_iff.1 hv)
 have hxs:∀ x,x∈xs↔x<ns.length/\x≠t:=by
  have hall:=zq5 (n:=ns.length) (os:=t :: xs) (qaR.2 ⟨λhm=>(ho.ne t hm) rfl,ho.nod⟩) (by have:=c.lt; rw[qaB,hxl]; omega) (λx hx=>by
   rcases qav.1 hx with rfl | hx
   .exact c.lt
   exact ho.lt x hx)
  exact λx=>⟨λhx=>⟨ho.lt x hx,ho.ne x hx⟩,λhx=>(qav.1 (hall x hx.1)).resolve_left hx.2⟩
 obtain⟨NL,hNL⟩:∃ NL,NL=(List.range ns.length).filter nd:=⟨_,rfl⟩;obtain⟨AL,hAL⟩:∃ AL,AL=(List.range ns.length).filter λv=>od v && !nd v:=⟨_,rfl⟩
 obtain⟨BL,hBL⟩:∃ BL,BL=os.filter λv=>!od v:=⟨_,rfl⟩
 obtain⟨inD,hinD⟩:∃ inD:Nat->Bool,inD=occ (zcM ns e NL):=⟨_,rfl⟩;obtain⟨LN,hLN⟩:∃ LN,LN=zgo (knE e) (zcM ns e NL) xs:=⟨_,rfl⟩;obtain⟨LA,hLA⟩:∃ LA,LA=xs.filter λx=>!knE e x && (!inD x && od x):=⟨_,rfl⟩
 have mNL:∀ v,v∈NL↔v<ns.length/\nd v=true:=λv=>by rw[hNL,qaA,qaW]
 have mAL:∀ v,v∈AL↔v<ns.length/\od v=true/\nd v=false:=λv=>by rw[hAL,qaA,qaW,qai,qbh]
 have mBL:∀ v,v∈BL↔v<ns.length/\od v=false:=λv=>by rw[hBL,qaA,ht.all.mem_iff,qaW,qbh]
 have mD:∀ x,x<ns.length->(inD x=true↔(∃ a,(a<ns.length/\nd a=true)/\(x=a\/x∈(ns.getD a zdd).ps))/\knE e x=false):=λx hx=>by
  rw[hinD,zjJ h hx];simp only[mNL]
 have mLN:∀ x,x∈LN↔(x<ns.length/\x≠t)/\knE e x=false/\inD x=true:=λx=>by
  rw[hLN];unfold zgo;rw[qaA,hxs,qai,qbh,hinD]
 have mLA:∀ x,x∈LA↔(x<ns.length/\x≠t)/\knE e x=false/\inD x=false/\od x=true:=λx=>by
  rw[hLA,qaA,hxs,qai,qai,qbh,qbh]
 have hDo:∀ x,x<ns.length->inD x=true->od x=true:=λx hx hd=>by
  obtain⟨⟨a,⟨a1,a2⟩,a3⟩,_⟩:=(mD x hx).1 hd;rcases a3 with rfl | a3
  .exact c.no _ a1 a2
  exact c.up a a1 (c.no a a1 a2) x a3
 have hot:od t=true:=c.no t c.lt c.nt;have hplt:∀ a,a<ns.length->∀ p∈(ns.getD a zdd).ps,p<ns.length:=λa ha p hp=>by
  have:=(h.stc ha).var p (zef.2 (.inr hp))
  rwa [qak]at this
 have hNp:(List.range ns.length).Perm (NL ++ (AL ++ BL)):=by
  refine(qcS qcg ?_).2 λv=>?_
  .refine qb9.2 ⟨hNL ▸ qaK _ qcg,qb9.2 ⟨hAL ▸ qaK _ qcg,hBL ▸ qaK _ ht.nod,?_⟩,?_⟩
   .rintro a ha b hb rfl;have h1:=((mAL a).1 ha).2.1;rw[((mBL a).1 hb).2]at h1;cases h1
   rintro a ha b hb rfl;obtain⟨h1,h2⟩:=(mNL a).1 ha;rcases qa9.1 hb with hb | hb
   .have:=((mAL a).1 hb).2.2;rw[h2]at this;cases this
   have:=((mBL a).1 hb).2;rw[c.no a h1 h2]at this;cases this
  rw[qaW,qa9,qa9,mNL,mAL,mBL];constructor
  .intro hv;cases h1:nd v with
   | true=>exact .inl ⟨hv,rfl⟩
   | false=>
    cases h2:od v with
    | true=>exact .inr (.inl ⟨hv,rfl,rfl⟩)
    | false=>exact .inr (.inr ⟨hv,rfl⟩)
  rintro(h1 | h1 | h1)<;> exact h1.1
 have hVp:(zgo (knE e) (zcM ns e (List.range ns.length)) xs).Perm (LN ++ (LA ++ BL)):=by
  refine(qcS (qaK _ ho.nod) ?_).2 λv=>?_
  .refine qb9.2 ⟨hLN ▸ qaK _ ho.nod,qb9.2 ⟨hLA ▸ qaK _ ho.nod,hBL ▸ qaK _ ht.nod,?_⟩,?_⟩
   .rintro a ha b hb rfl;have h1:=((mLA a).1 ha).2.2.2;rw[((mBL a).1 hb).2]at h1;cases h1
   rintro a ha b hb rfl;obtain⟨⟨h0,_⟩,h1,h2⟩:=(mLN a).1 ha;rcases qa9.1 hb with hb | hb
   .have:=((mLA a).1 hb).2.2.1;rw[h2]at this;cases this
   have:=((mBL a).1 hb).2;rw[hDo a h0 h2]at this;cases this
  rw[qaA,hxs,qa9,qa9,mLN,mLA,mBL,qai,qbh];constructor
  .rintro⟨h0,h1,_⟩;cases h2:inD v with
   | true=>exact .inl ⟨h0,h1,rfl⟩
   | false=>
    cases h3:od v with
    | true=>exact .inr (.inl ⟨h0,h1,rfl,rfl⟩)
    | false=>exact .inr (.inr ⟨h0.1,rfl⟩)
  intro hv;have hb:(v<ns.length/\v≠t)/\knE e v=false:=by
   rcases hv with hv | hv | hv
   .exact⟨hv.1,hv.2.1⟩
   .exact⟨hv.1,hv.2.1⟩
   refine⟨⟨hv.1,λev=>?_⟩,?_⟩
   .rw[ev,hot]at hv; exact absurd hv.2 (by decide)
   cases hk:knE e v with
   | false=>rfl
   | true=>have:=c.kn v hv.1 hk; rw[hv.2]at this; cases this
  exact⟨hb.1,hb.2,(zjJ h hb.1.1).2 ⟨⟨v,qaW.2 hb.1.1,.inl rfl⟩,hb.2⟩⟩
 have hUn:(zgo (knE e) (zcM ns e (List.range ns.length)) xs).Nodup:=qaK _ ho.nod;have hkB:∀ v∈BL,knE e v=false:=λv hv=>by
  obtain⟨h1,h2⟩:=(mBL v).1 hv;cases hk:knE e v with
  | false=>rfl
  | true=>have:=c.kn v h1 hk; rw[h2]at this; cases this
 have hBpw:BL.Pairwise (λa b=>b≠a/\b ∉ (ns.getD a zdd).ps):=by
  rw[hBL];refine qaK _ ?_;rw[List.pairwise_iff_forall_sublist];intro a b hab;obtain⟨pre,post,e1,e2⟩:∃ pre post,os=pre ++ a :: post/\b∈post:=by
   obtain⟨r1,r2,e1,e2,e3⟩:=List.cons_sublist_iff.1 hab;obtain⟨p1,p2,e4⟩:=List.append_of_mem e2;exact⟨p1,p2 ++ r2,by rw[e1,e4]; simp,qdj _ (List.singleton_sublist.1 e3)⟩
  have hn:=ht.nod;rw[e1]at hn;obtain⟨n1,n2,n3⟩:=qb9.1 hn;refine⟨λe3=>(qaR.1 n2).1 (e3 ▸ e2),λhm=>?_⟩;exact n3 b (ht.par pre post a e1.symm b hm) b (qah _ e2) rfl
 have hBo:∀(L:List Nat),(∀ a∈L,a<ns.length/\od a=true)->∀ w∈BL,∀(r:Nat->Nat) (y:Nat),wtO ns L (evS e (upd r w y))=wtO ns L (evS e r):=λL hL w hw r y=>zh6 λa ha u hu=>by
  obtain⟨a1,a2⟩:=hL a ha;refine zpd λeu=>?_
  have:od u=true:=(zef.1 hu).elim (λe1=>e1 ▸ a2) λhp=>c.up a a1 a2 u hp
  rw[eu,((mBL w).1 hw).2]at this;cases this
 have hA:∀ w∈LA,∀(r:Nat->Nat) (y:Nat),wtO ns NL (evS e (upd r w y))=wtO ns NL (evS e r):=λw hw r y=>zh6 λa ha u hu=>by
  obtain⟨⟨w0,_⟩,w1,w2,_⟩:=(mLA w).1 hw;refine zpd λeu=>?_
  have:inD w=true:=(mD w w0).2 ⟨⟨a,(mNL a).1 ha,eu ▸ zef.1 hu⟩,w1⟩;rw[w2]at this;cases this
 have hN:∀ w,w<ns.length->(∃ a,(a<ns.length/\nd a=true)/\(w=a\/w∈(ns.getD a zdd).ps))->knE e w=false->∀(r:Nat->Nat) (y:Nat),wtO ns AL (evS e (upd r w y))=wtO ns AL (evS e r):=λw hw ⟨a,⟨a1,a2⟩,a3⟩ hk r y=>zh6 λb hb u hu=>by
  obtain⟨b1,b2,b3⟩:=(mAL b).1 hb;refine zpd λeu=>?_
  have:=c.ap a b w a1 b1 a2 b3 b2 a3 (eu ▸ zef.1 hu);rw[hk]at this;cases this
 obtain⟨K,hK⟩:∃ K:(Nat->Nat)->Nat,K=λr=>zji (λv=>(ns.map (·.c)).getD v 0) LA r (λq=>wtO ns AL (evS e q)* g ^ BL.length):=⟨_,rfl⟩
 have hKi:∀ w,w<ns.length->w ∉ LA->(∃ a,(a<ns.length/\nd a=true)/\(w=a\/w∈(ns.getD a zdd).ps))->knE e w=false->∀(r:Nat->Nat) (y:Nat),K (upd r w y)=K r:=λw hw hwA ha hk r y=>by
  rw[hK];exact zmf (λq=>by rw[hN w hw ha hk q y]) LA r hwA
 refine⟨K s,λx hx=>?_⟩;have hfs:=zhV hs (v:=t) hx;have hLNlt:∀ v∈NL,v<ns.length:=λv hv=>((mNL v).1 hv).1
 rw[<- hNL,<- hLN,zpr hVp hUn,
  zhb (G:=λr=>wtO ns NL (evS e r)* (wtO ns AL (evS e r)* wtO ns BL (evS e r))) (λr hr=>by
   rw[zwH h he (λv hv=>qaW.1 hv) hr,<- zqO,<- zqO]
   exact zlR (hNp.map _)) _ _ hfs,zjX,
  zhb (G:=λr=>wtO ns NL (evS e r)* K r) (λr hr=>?_) LN _ hfs,
  zhb (F:=gL (zcM ns e NL)) (G:=λr=>wtO ns NL (evS e r)) (λr hr=>zwH h he hLNlt hr) LN _ hfs]
 .have e1:(λr=>wtO ns NL (evS e r)* K r)=λr=>K r * wtO ns NL (evS e r):=funext λr=>qaS _ _
  rw[e1,zhd (F:=K) LN _ λw hw r y=>?_,hKi t c.lt (λhm=>((mLA t).1 hm).1.2 rfl) ⟨t,⟨c.lt,c.nt⟩,.inl rfl⟩ c.kt];obtain⟨⟨w0,w1⟩,w2,w3⟩:=(mLN w).1 hw;exact hKi w w0 (λhm=>by have:=((mLA w).1 hm).2.2.1; rw[w3]at this; cases this) ((mD w w0).1 w3).1 w2 r y
 rw[zjX,zhb (G:=λq=>wtO ns NL (evS e q)* (wtO ns AL (evS e q)* g ^ BL.length)) (λq hq=>?_) LA r hr,zhd (F:=λq=>wtO ns NL (evS e q)) LA r hA,hK];have hq':∀ v,v<ns.length->evS e q v<(ns.map (·.c)).getD v 0:=λv hv=>zCI he hq v (by rw[qak]; exact hv)
 rw[zhd (F:=λq=>wtO ns NL (evS e q)) BL q (hBo NL λa ha=>⟨((mNL a).1 ha).1,c.no a ((mNL a).1 ha).1 ((mNL a).1 ha).2⟩),
  zhd (F:=λq=>wtO ns AL (evS e q)) BL q (hBo AL λa ha=>⟨((mAL a).1 ha).1,((mAL a).1 ha).2.1⟩),
  zAj h BL q (λv hv=>((mBL v).1 hv).1) hkB hBpw hq']
theorem zl7:∀(k n a b:Nat),b<2 ^ k->2 * k+1<=n->zbJ n (a:Int) (b:Int)=some ((Nat.gcd a b:Nat):Int)
 | k,0,_,_,_,h=>absurd h (by omega)
 | k,n+1,a,0,_,_=>by
  unfold zbJ;rw[show(((0:Nat):Int)== 0)=true from rfl,qdt,Nat.gcd_zero_right]
 | 0,n+1,a,b+1,hb,_=>absurd hb (by simp)
 | k+1,n+1,a,b+1,hb,hn=>by
  obtain⟨m,rfl⟩:∃ m,n=m+1:=⟨n - 1,by omega⟩;unfold zbJ;have hr:a % (b+1)<b+1:=qa7 _ (qdg b);rw[show(((b+1:Nat):Int)== 0)=false from by rw[qdA]; omega,qdu,zgC (qdg b),qaa,Nat.gcd_comm,Nat.gcd_rec,Nat.gcd_comm];obtain⟨r,hrr⟩:∃ r,a % (b+1)=r:=⟨_,rfl⟩;rw[hrr]at hr ⊢;cases r with
  | zero=>
   unfold zbJ;rw[show(((0:Nat):Int)== 0)=true from rfl,qdt,Nat.gcd_zero_right]
  | succ r=>
   unfold zbJ;have h2:(b+1) % (r+1)<r+1:=qa7 _ (qdg r);have h3:(b+1) % (r+1)<=b+1 - (r+1):=by
    rw[Nat.mod_eq_sub_mod (by omega)];exact Nat.mod_le _ _
   rw[show(((r+1:Nat):Int)== 0)=false from by rw[qdA]; omega,qdu,zgC (qdg r),qaa,Nat.gcd_comm (b+1),Nat.gcd_rec,Nat.gcd_comm];exact zl7 k m (r+1) ((b+1) % (r+1)) (by rw[qc5]at hb; omega) (by omega)
def qf(w t:Nat):S_api_Q:=⟨((w / Nat.gcd w t:Nat):Int),((t / Nat.gcd w t:Nat):Int)⟩
theorem zBb{t:Nat}(hc:0<c):qf (c * w) (c * t)=qf w t:=by
 unfold qf;rw[Nat.gcd_mul_left,Nat.mul_div_mul_left _ _ hc,Nat.mul_div_mul_left _ _ hc]
theorem zCg:zc1<2 ^ 62:=by decide
theorem zFl{t:Nat}(hN:200<=N)(ht:1<=t)(hw:w<=zc1)(htb:t<=zc1):ze8 N (w:Int) (t:Int)=some (qf w t,0):=by
 have hb:zc1=4611686018427387903:=rfl;have hg:0<Nat.gcd w t:=Nat.gcd_pos_of_pos_right _ ht;have hgl:Nat.gcd w t<=t:=Nat.gcd_le_right _ ht;have h1:w / Nat.gcd w t<=w:=qcC _ _;have h2:t / Nat.gcd w t<=t:=qcC _ _;have hq:∀ a:Nat,a<=zc1->zkp .u64 (a:Int) ((Nat.gcd w t:Nat):Int)=some ((a / Nat.gcd w t:Nat):Int):=λa ha=>by
  unfold zkp;rw[show((((Nat.gcd w t:Nat):Int))== 0)=false from by rw[qdA]; omega,qdu,show((a:Int)).tdiv ((Nat.gcd w t:Nat):Int)=((a / Nat.gcd w t:Nat):Int)from rfl];have:=qcC a (Nat.gcd w t);rw[zbY (by omega)]
 have hs:∀ a:Nat,a<=zc1->zbA (a:Int)=some (a:Int):=λa ha=>by
  unfold zbA;rw[show decide ((a:Int)<0)=false from qdw (by omega),qdu,zbY (by omega)]
 have hc:zdY N (w:Int) (t:Int)=some ((Nat.gcd w t:Nat):Int):=by
  unfold zdY;rw[zl7 62 N w t (qbT htb zCg) (by omega),qaa]
 unfold ze8 zgt zdA
 rw[show(((t:Nat):Int)== 0)=false from by rw[qdA]; omega,qdu,hs w hw,qaa,hs t htb,qaa,hc,qaa,show decide (((w:Nat):Int)<0)=false from qdw (by omega),qdu,show decide (((t:Nat):Int)<0)=false from qdw (by omega),qdu,
  qaa,hq w hw,qaa,qaa,hq t htb,qaa]
 unfold zep;simp only[show((0:Int)== 0)=true from rfl,qdt];rw[show decide ((4611686018427387903:Int)<((w / Nat.gcd w t:Nat):Int))=false from qdw (by omega),qdu,show decide ((4611686018427387903:Int)<((t / Nat.gcd w t:Nat):Int))=false from qdw (by omega),qaa,qdu,qdu,zaC (by omega),zaC (by omega),qaa,qaa,qaa];rfl
theorem zmj(ws:List Nat):(List.range' 0 ws.length).map (λi=>ws.getD i 0)=ws:=by
 refine qbJ (by simp) λi a b=>?_
 simp[qag,qac b]
theorem zwK{cs:List Nat}(hf:Stc cs f M)(hB:zac f.cs * M<=zc1):zci f.D=some (((f.ws.sum:Nat):Int),0)/\f.ws.sum<=zc1:=by
 have hfib:fib f [] (zac f.cs) 0 0=f.ws:=by
  unfold fib;rw[qc2.2 λi _=>by rw[zES]; rfl,<- hf.ok.size];exact zmj f.ws
 have hg:=znh false hf.ok (zvf f) hf.le hB;rw[show(List.range' 0 (zac (cof f []))).map (λj=>big false (fib f [] (zac f.cs) 0 j))=[big false (fib f [] (zac f.cs) 0 0)]from rfl,hfib,zrj]at hg;refine⟨by rw[zBz hf.ok,hg]; rfl,?_⟩;rw[<- zrj];refine qaq (zxy (M:=M) λy hy=>?_) (by rw[hf.ok.size]; exact hB);obtain⟨i,hi,rfl⟩:=List.getElem_of_mem hy;have:=hf.le i;unfold Fc.get at this
 rwa [qag,qac hi]at this
theorem zEL{cs:List Nat}(hf:Stc cs f M)(hv:f.vs=[])(s:Nat->Nat):f.ws=[f.val s]:=by
 have hc:f.cs=[]:=by rw[hf.cs_,hv]; rfl
 have hl:f.ws.length=1:=by rw[hf.ok.size,hc]; rfl
 unfold Fc.val Fc.get;rw[hv,hc];obtain⟨w,hw⟩:=List.length_eq_one_iff.1 hl;rw[hw];rfl
theorem zCO{cs:List Nat}{t:Nat}(hf:Stc cs f M)(hv:f.vs=[t])(s:Nat->Nat):f.ws.length=cs.getD t 0/\∀ x,f.ws.getD x 0=f.val (upd s t x):=by
 have hc:f.cs=[cs.getD t 0]:=by rw[hf.cs_,hv]; rfl
 refine⟨by rw[hf.ok.size,hc]; exact qb7 _,λx=>?_⟩;unfold Fc.val Fc.get;rw[hv,hc];show f.ws.getD x 0=f.ws.getD (dot [upd s t x t] (zaJ [cs.getD t 0])) 0;rw[zdB];congr 1
 simp[dot,zaJ,zac]
theorem zwf:∀(L:List (Nat×Fc)) (u:List StI) (d:Nat×Fc),u.map (·.1)=L.map (λe=>(⟨(e.1:Int),e.2.D⟩:StR))->zap u d.2.D.vars d.2.D.zaf d.2.D.w=some ((L.getLastD d).2.D.vars,(L.getLastD d).2.D.zaf,(L.getLastD d).2.D.w)
 | [],u,d,hu=>by
  cases u with
  | nil=>rfl
  | cons y u=>cases hu
 | x :: L,u,d,hu=>by
  cases u with
  | nil=>cases hu
  | cons y u=>
   simp only[qaL,List.cons.injEq]at hu;obtain⟨hy,hu⟩:=hu;unfold zap;rw[hy,List.getLastD_cons];exact zwf L u x hu
def zhg(ns:List NN)(e:List Int)(L xs:List Nat):Fc:=zeI (ziO (knE e) (λv=>(ns.map (·.c)).getD v 0) (zcM ns e L) xs)
abbrev zS:Nat->Nat:=λ_=>0
def wE(ns:List NN)(e:List Int)(L xs:List Nat)(v x:Nat):Nat:=bif knE e v then(bif x == veE e v then(zhg ns e L xs).val zS else 0)else(zhg ns e L xs).val (upd zS v x)
def tE(ns:List NN)(e:List Int)(L xs:List Nat)(v:Nat):Nat:=zfu ((ns.map (·.c)).getD v 0) (wE ns e L xs v)
theorem zsC{a:Nat}(hy:y<c):zfu c (λx=>bif x == y then a else 0)=a:=by
 induction c with
 | zero=>omega
 | succ c ih=>
  show zfu c (λx=>bif x == y then a else 0)+(bif c == y then a else 0)=a;by_cases e:y=c
  .subst e;rw[qdx,qdt,zb2 (g:=λ_=>0) λx hx=>by rw[qdy (by omega),qdu],zkJ,qaO]
  rw[ih (by omega),qdy (λh=>e h.symm),qdu,qbH]
theorem zuy{f:Nat->Nat}:∀ {n x:Nat},x<n->f x<=zfu n f
 | n+1,x,h=>by
  show f x<=zfu n f+f n;by_cases e:x=n
  .subst e; exact Nat.le_add_left _ _
  exact qaq (zuy (by omega)) (Nat.le_add_right _ _)
structure FinOk (ns:List NN) (e:List Int) (L xs:List Nat) (v:Nat):Prop where
 tot:zci (zhg ns e L xs).D=some (((tE ns e L xs v:Nat):Int),0)
 le:tE ns e L xs v<=zc1
 w:knE e v=false->(zhg ns e L xs).ws.length=(ns.map (·.c)).getD v 0/\∀ x,(zhg ns e L xs).ws.getD x 0=wE ns e L xs v x
 val:∀ s,zjd (ns.map (·.c)) s->(zhg ns e L xs).val s=zji (λv=>(ns.map (·.c)).getD v 0) (zgo (knE e) (zcM ns e L) xs) s (gL (zcM ns e L))
theorem zE8(h:RightN g ns):zjd (ns.map (·.c)) zS:=λu hu=>by
 have:=(zjb h.ncs.zaF hu).1;show 0<_;omega
theorem zD5(h:RightN g ns)(he:EvOk (ns.map (·.c)) e)(hv:v<ns.length)(ho:OrdOk ns.length v xs)(hxl:xs.length=ns.length - 1){L:List Nat}(hL:∀ u∈L,u<ns.length)(hl:L.length<=8)(hm:knE e v=false->v∈L):FinOk ns e L xs v:=by
 obtain⟨⟨E',k1⟩,k2,k3⟩:=zmq h.ncs c8 (kn:=knE e) xs (zcM ns e L) [] (zpJ h hL hl) ho.nod (λ_ _ hm=>nomatch hm);have hB:=k1.tot h.ncs c8;have hs:Stc (ns.map (·.c)) (zhg ns e L xs) _:=zkr h.ncs k1.lok hB;have hsz:=k1.size h.ncs c8 (qs:=ziO (knE e) (λv=>(ns.map (·.c)).getD v 0) (zcM ns e L) xs) (λq hq=>hq) (qap _);obtain⟨t1,t2⟩:=zwK hs hsz;have hcv:=zjb h.ncs.zaF (show v<(ns.map (·.c)).length by rw[qak]; exact hv);have hxs:∀ x,x<ns.length->x≠v->x∈xs:=λx hx hne=>by
  have hall:=zq5 (n:=ns.length) (os:=v :: xs) (qaR.2 ⟨λhm=>(ho.ne v hm) rfl,ho.nod⟩) (by rw[qaB,hxl]; omega) (λx hx=>by
   rcases qav.1 hx with rfl | hx
   .exact hv
   exact ho.lt x hx)
  exact(qav.1 (hall x hx)).resolve_left hne
 have hmem:∀ y,y∈(zhg ns e L xs).vs↔occ (ziO (knE e) (λv=>(ns.map (·.c)).getD v 0) (zcM ns e L) xs) y=true:=λy=>(ziG h.ncs k1.lok hB).trans zi0.symm
 have honly:∀ y∈(zhg ns e L xs).vs,y=v/\knE e v=false:=λy hy=>by
  have hyn:=hs.var y hy;rw[qak]at hyn;have h1:=(hmem y).1 hy;rw[k3,qai,qbh]at h1;obtain⟨h1,h2⟩:=h1;have hky:=((zjJ h hyn).1 h1).2;have:y=v:=qbD λhne=>by
   rw[qdv (hxs y hyn hne),hky]at h2;cases h2
  exact⟨this,this ▸ hky⟩
 have hval:∀ s,zjd (ns.map (·.c)) s->(zhg ns e L xs).val s=zji (λv=>(ns.map (·.c)).getD v 0) (zgo (knE e) (zcM ns e L) xs) s (gL (zcM ns e L)):=λs hs'=>by
  rw[<- k2 s hs'];exact zpG h.ncs k1.lok hB hs'
 cases hk:knE e v with
 | true=>
  have hvs:(zhg ns e L xs).vs=[]:=List.eq_nil_iff_forall_not_mem.2 λy hy=>by
   have:=(honly y hy).2;rw[hk]at this;cases this
  have hw:=zEL hs hvs zS;have ht:(zhg ns e L xs).ws.sum=tE ns e L xs v:=by
   unfold tE;have e1:wE ns e L xs v=λx=>bif x == veE e v then(zhg ns e L xs).val zS else 0:=funext λx=>by unfold wE; rw[hk,qdt]
   rw[e1,zsC (he.ve (by rw[qak]; exact hv) hk).1,hw];simp
  rw[ht]at t1 t2;exact⟨t1,t2,λhh=>(by rw[hk]at hh; cases hh),hval⟩
 | false=>
  have hvs:(zhg ns e L xs).vs=[v]:=by
   have hvm:v∈(zhg ns e L xs).vs:=(hmem v).2 (by
    rw[k3,(zjJ h hv).2 ⟨⟨v,hm hk,.inl rfl⟩,hk⟩,qdw (λhm=>ho.ne v hm rfl)]
    rfl)
   have hn:=zbn hs.ok.inc;cases hvv:(zhg ns e L xs).vs with
   | nil=>rw[hvv]at hvm; cases hvm
   | cons a r=>
    have ha:a=v:=(honly a (by rw[hvv]; exact qaj)).1;cases r with
    | nil=>rw[ha]
    | cons b r=>
     have hb:b=v:=(honly b (by rw[hvv]; exact qah _ qaj)).1;rw[hvv,ha,hb]at hn;exact absurd qaj (qaR.1 hn).1
  obtain⟨o1,o2⟩:=zCO hs hvs zS;have e1:∀ x,wE ns e L xs v x=(zhg ns e L xs).val (upd zS v x):=λx=>by unfold wE; rw[hk,qdu]
  have ht:(zhg ns e L xs).ws.sum=tE ns e L xs v:=by
   unfold tE;rw[zh9,<- o1];congr 1
   rw[<- zmj (zhg ns e L xs).ws];simp only[qak,List.length_range'];exact qaT λx _=>by rw[o2,<- e1]
  rw[ht]at t1 t2;exact⟨t1,t2,λ_=>⟨o1,λx=>by rw[o2,e1]⟩,hval⟩
inductive Anc (par:Nat->Nat->Prop):Nat->Nat->Prop
 | refl (a:Nat):Anc par a a
 | up {a b c:Nat}:Anc par a b->par b c->Anc par a c
inductive Tr (par:Nat->Nat->Prop) (kn ab:Nat->Prop) (u:Nat):Bool->Nat->Prop
 | start:Tr par kn ab u false u
 | dn {d:Bool} {v c:Nat}:Tr par kn ab u d v->¬ kn v->par c v->Tr par kn ab u false c
 | tu {v p:Nat}:Tr par kn ab u false v->ab v->par v p->Tr par kn ab u true p
 | uu {v p:Nat}:Tr par kn ab u true v->¬ kn v->par v p->Tr par kn ab u true p
inductive Mr (par:Nat->Nat->Prop) (kn:Nat->Prop) (n:Nat):Nat->Prop
 | base:Mr par kn n n
 | step {a b:Nat}:Mr par kn n a->¬ kn a->(par a b\/par b a\/∃ c,par c a/\par c b)->Mr par kn n b
def zx9(par:Nat->Nat->Prop)(n u c q:Nat):Prop:=par c q\/(c=u/\q=n)
def ztS(par:Nat->Nat->Prop)(kn:Nat->Prop)(n u t i:Nat):Prop:=∃ a,(a=n\/a=t\/kn a)/\Anc (zx9 par n u) a i
def kept(par:Nat->Nat->Prop)(kn:Nat->Prop)(n u t c q:Nat):Prop:=ztS par kn n u t c/\zx9 par n u c q
section
variable {par:Nat->Nat->Prop} {kn ab:Nat->Prop} {n u t:Nat}
variable{a c:Nat}
theorem Anc.tr{b:Nat}(h1:Anc par a b)(h2:Anc par b c):Anc par a c:=by
 induction h2 with
 | refl=>exact h1
 | up _ e ih=>exact .up ih e
theorem Anc.x{b:Nat}(h:Anc par a b):Anc (zx9 par n u) a b:=by
 induction h with
 | refl=>exact .refl _
 | up _ e ih=>exact .up ih (.inl e)
variable{i:Nat}
theorem zHc(hn:∀ q,¬ par n q)(hu:u≠n)(h:Anc (zx9 par n u) n i):i=n:=by
 induction h with
 | refl=>rfl
 | up _ e ih=>
  subst ih;rcases e with e | ⟨e,_⟩
  .exact absurd e (hn _)
  exact absurd e.symm hu
theorem zEY(hn:∀ q,¬ par n q)(hu:u≠n)(h:Anc (zx9 par n u) a i):i=n\/Anc par a i:=by
 induction h with
 | refl=>exact .inr (.refl _)
 | up _ e ih=>
  rcases e with e | ⟨_,e⟩
  .rcases ih with rfl | ih
   .exact absurd e (hn _)
   exact .inr (.up ih e)
  exact .inl e
theorem zjR(hn:∀ q,¬ par n q)(hu:u≠n)(hi:i≠n):ztS par kn n u t i↔∃ a,(a=t\/kn a)/\Anc par a i:=by
 constructor
 .rintro⟨a,rfl | h,r⟩
  .exact absurd (zHc hn hu r) hi
  rcases zEY hn hu r with e | r
  .exact absurd e hi
  exact⟨a,h,r⟩
 rintro⟨a,h,r⟩;exact⟨a,.inr h,r.x⟩
theorem zqy{q:Nat}(h:ztS par kn n u t c)(e:zx9 par n u c q):ztS par kn n u t q:=by
 obtain⟨a,h1,h2⟩:=h;exact⟨a,h1,.up h2 e⟩
theorem zGI(hab:∀ i,ab i↔∃ e,kn e/\Anc par e i)(hkn:¬ kn n){d:Bool}{x:Nat}(h:Tr par kn ab u d x):
  (d=true->ab x/\Mr (kept par kn n u t) kn n x)/\(d=false->∃ z,zx9 par n u x z/\¬ kn z/\(ztS par kn n u t z->Mr (kept par kn n u t) kn n z)):=by
 have hold:∀ {i:Nat},ab i->ztS par kn n u t i:=λh=>by
  obtain⟨e,h1,h2⟩:=(hab _).1 h;exact⟨e,.inr (.inr h1),h2.x⟩
 have hup:∀ {i j:Nat},ab i->par i j->ab j:=λh e=>by
  obtain⟨a,h1,h2⟩:=(hab _).1 h;exact(hab _).2 ⟨a,h1,.up h2 e⟩
 have hdn:∀ {x:Nat},(∃ z,zx9 par n u x z/\¬ kn z/\(ztS par kn n u t z->Mr (kept par kn n u t) kn n z))->ztS par kn n u t x->Mr (kept par kn n u t) kn n x:=by
  rintro x ⟨z,z1,z2,z3⟩ ho;exact .step (z3 (zqy ho z1)) z2 (.inr (.inl ⟨ho,z1⟩))
 induction h with
 | start=>exact⟨λh=>(by cases h),λ_=>⟨n,.inr ⟨rfl,rfl⟩,hkn,λ_=>.base⟩⟩
 | @dn d v c h hk e ih=>
  refine⟨λh=>(by cases h),λ_=>⟨v,.inl e,hk,λho=>?_⟩⟩;cases d with
  | true=>exact(ih.1 rfl).2
  | false=>exact hdn (ih.2 rfl) ho
 | @tu v p h ha e ih=>
  refine⟨λ_=>⟨hup ha e,?_⟩,λh=>(by cases h)⟩;obtain⟨z,z1,z2,z3⟩:=ih.2 rfl;have ho:=hold ha;exact .step (z3 (zqy ho z1)) z2 (.inr (.inr ⟨v,⟨ho,z1⟩,⟨ho,.inl e⟩⟩))
 | @uu v p h hk e ih=>
  obtain⟨h1,h2⟩:=ih.1 rfl;exact⟨λ_=>⟨hup h1 e,.step h2 hk (.inl ⟨hold h1,.inl e⟩)⟩,λh=>(by cases h)⟩
theorem zC8(hab:∀ i,ab i↔∃ e,kn e/\Anc par e i)(h:Anc par t c):¬ ab c->(∃ d,Tr par kn ab u d c)->∃ d,Tr par kn ab u d t:=by
 induction h with
 | refl=>exact λ_ h=>h
 | @up b c h e ih=>
  rintro ha ⟨d,hd⟩;refine ih (λhb=>ha ?_) ⟨false,.dn hd (λhk=>ha ((hab _).2 ⟨c,hk,.refl c⟩)) e⟩;obtain⟨a,h1,h2⟩:=(hab _).1 hb;exact(hab _).2 ⟨a,h1,.up h2 e⟩
theorem zGM(hab:∀ i,ab i↔∃ e,kn e/\Anc par e i)(hn:∀ q,¬ par n q)(hn':∀ c,¬ par c n)(hu:u≠n){x:Nat}(h:Mr (kept par kn n u t) kn n x):
  (∃ d,Tr par kn ab u d t)\/x=n\/kn x\/∃ d,Tr par kn ab u d x:=by
 have hcase:∀ {c:Nat},c≠n->ztS par kn n u t c->ab c\/(¬ ab c/\Anc par t c):=λ{c} hc ho=>by
  by_cases ha:ab c
  .exact .inl ha
  obtain⟨a,h1,h2⟩:=(zjR hn hu hc).1 ho;rcases h1 with rfl | h1
  .exact .inr ⟨ha,h2⟩
  exact absurd ((hab _).2 ⟨a,h1,h2⟩) ha
 have htop:∀ {c b:Nat},c≠n->Tr par kn ab u false c->ztS par kn n u t c->par c b->(∃ d,Tr par kn ab u d t)\/∃ d,Tr par kn ab u d b:=λ{c b} hc ht ho e=>by
  rcases hcase hc ho with ha | ⟨ha,hr⟩
  .exact .inr ⟨true,.tu ht ha e⟩
  exact .inl (zC8 hab hr ha ⟨false,ht⟩)
 have hun:∀ {q:Nat},¬ zx9 par n u n q:=λ{q} e=>e.elim (hn q) λe=>hu e.1.symm
 induction h with
 | base=>exact .inr (.inl rfl)
 | @step a b h hk e ih=>
  by_cases hbn:b=n
  .exact .inr (.inl hbn)
  by_cases han:a=n
  .subst han;rcases e with⟨_,e⟩| ⟨_,e⟩| ⟨c,⟨ho,e1⟩,⟨_,e2⟩⟩
   .exact absurd e hun
   .rcases e with e | ⟨e,_⟩
    .exact absurd e (hn' _)
    exact .inr (.inr (.inr ⟨false,e ▸ .start⟩))
   rcases e1 with e1 | ⟨rfl,_⟩
   .exact absurd e1 (hn' _)
   rcases e2 with e2 | ⟨_,e2⟩
   .exact(htop hu .start ho e2).elim .inl λh=>.inr (.inr (.inr h))
   exact absurd e2 hbn
  rcases ih with ih | ih | ih | ⟨d,hd⟩
  .exact .inl ih
  .exact absurd ih han
  .exact absurd ih hk
  rcases e with⟨ho,e⟩| ⟨_,e⟩| ⟨c,⟨ho,e1⟩,⟨_,e2⟩⟩
  .rcases e with e | ⟨_,e⟩
   .cases d with
    | true=>exact .inr (.inr (.inr ⟨true,.uu hd hk e⟩))
    | false=>exact(htop han hd ho e).elim .inl λh=>.inr (.inr (.inr h))
   exact absurd e hbn
  .rcases e with e | ⟨_,e⟩
   .exact .inr (.inr (.inr ⟨false,.dn hd hk e⟩))
   exact absurd e han
  rcases e1 with e1 | ⟨_,e1⟩
  .have hc:c≠n:=λe=>hn _ (e ▸ e1)
   rcases e2 with e2 | ⟨_,e2⟩
   .exact(htop hc (.dn hd hk e1) ho e2).elim .inl λh=>.inr (.inr (.inr h))
   exact absurd e2 hbn
  exact absurd e1 han
theorem zFC(hab:∀ i,ab i↔∃ e,kn e/\Anc par e i)(hn:∀ q,¬ par n q)(hn':∀ c,¬ par c n)(hu:u≠n)(hkn:¬ kn n)(ht:t≠n)(hkt:¬ kn t):(∃ d,Tr par kn ab u d t)↔Mr (kept par kn n u t) kn n t:=by
 have ho:ztS par kn n u t t:=⟨t,.inr (.inl rfl),.refl t⟩;constructor
 .rintro⟨d,h⟩;have hm:=zGI (t:=t) hab hkn h;cases d with
  | true=>exact(hm.1 rfl).2
  | false=>
   obtain⟨z,z1,z2,z3⟩:=hm.2 rfl;exact .step (z3 (zqy ho z1)) z2 (.inr (.inl ⟨ho,z1⟩))
 intro h;rcases zGM hab hn hn' hu h with h | h | h | h
 .exact h
 .exact absurd h ht
 .exact absurd h hkt
 exact h
end
def zAz(par:Nat->Nat->Prop)(kn:Nat->Prop)(t i:Nat):Prop:=∃ a,(a=t\/kn a)/\Anc par a i
def zFz(par:Nat->Nat->Prop)(kn:Nat->Prop)(t c q:Nat):Prop:=zAz par kn t c/\par c q
section
variable {par:Nat->Nat->Prop} {kn ab:Nat->Prop} {n u t:Nat}
theorem zED(hab:∀ i,ab i↔∃ e,kn e/\Anc par e i){d:Bool}{x:Nat}(h:Tr par kn ab u d x):ab u\/(d=false/\Anc par x u):=by
 have hup:∀ {i j:Nat},ab i->Anc par i j->ab j:=λh r=>by
  obtain⟨a,h1,h2⟩:=(hab _).1 h;exact(hab _).2 ⟨a,h1,h2.tr r⟩
 induction h with
 | start=>exact .inr ⟨rfl,.refl _⟩
 | dn _ _ e ih=>exact ih.elim .inl λh=>.inr ⟨rfl,(Anc.up (.refl _) e).tr h.2⟩
 | tu _ ha _ ih=>exact .inl (ih.elim id λh=>hup ha h.2)
 | uu _ _ _ ih=>exact ih.elim .inl λh=>nomatch h.1
theorem zEa(hab:∀ i,ab i↔∃ e,kn e/\Anc par e i)(h:∃ d,Tr par kn ab u d t):zAz par kn t u:=by
 obtain⟨d,h⟩:=h;rcases zED hab h with h | h
 .obtain⟨e,h1,h2⟩:=(hab _).1 h;exact⟨e,.inr h1,h2⟩
 exact⟨t,.inl rfl,h.2⟩
variable{a b:Nat}
theorem Mr.trans{par:Nat->Nat->Prop}{c:Nat}(h1:Mr par kn a b)(h2:Mr par kn b c):Mr par kn a c:=by
 induction h2 with
 | base=>exact h1
 | step _ hk e ih=>exact .step ih hk e
theorem Mr.zDE{par:Nat->Nat->Prop}(h:Mr par kn a b):¬ kn b->Mr par kn b a:=by
 induction h with
 | base=>exact λ_=>.base
 | step _ hk e ih=>
  refine λhb=>(Mr.step .base hb ?_).trans (ih hk)
  rcases e with e | e | ⟨c,e1,e2⟩
  .exact .inr (.inl e)
  .exact .inl e
  exact .inr (.inr ⟨c,e2,e1⟩)
theorem Mr.mono{par par':Nat->Nat->Prop}(hp:∀ c q,par c q->par' c q)(h:Mr par kn a b):Mr par' kn a b:=by
 induction h with
 | base=>exact .base
 | step _ hk e ih=>
  refine .step ih hk ?_;rcases e with e | e | ⟨c,e1,e2⟩
  .exact .inl (hp _ _ e)
  .exact .inr (.inl (hp _ _ e))
  exact .inr (.inr ⟨c,hp _ _ e1,hp _ _ e2⟩)
theorem Mr.zIC{par:Nat->Nat->Prop}(h:Mr par kn a b)(hb:¬ kn b):¬ kn a:=by
 induction h with
 | base=>exact hb
 | step _ hk _ ih=>exact ih hk
theorem zEN(hn:∀ q,¬ par n q)(hn':∀ c,¬ par c n)(hu:u≠n){x:Nat}(h:Mr (kept par kn n u t) kn n x):x=n\/(zAz par kn t u/\∃ w,(w=u\/par u w)/\Mr (zFz par kn t) kn w x):=by
 have hold:∀ {i:Nat},i≠n->ztS par kn n u t i->zAz par kn t i:=λhi h=>(zjR hn hu hi).1 h
 induction h with
 | base=>exact .inl rfl
 | @step a b _ hk e ih=>
  by_cases hbn:b=n
  .exact .inl hbn
  refine .inr ?_;by_cases han:a=n
  .subst han;rcases e with⟨_,e⟩| ⟨ho,e⟩| ⟨c,⟨ho,e1⟩,⟨_,e2⟩⟩
   .exact(e.elim (hn b) λe=>hu e.1.symm).elim
   .rcases e with e | ⟨e,_⟩
    .exact absurd e (hn' _)
    subst e; exact⟨hold hbn ho,b,.inl rfl,.base⟩
   rcases e1 with e1 | ⟨e1,_⟩
   .exact absurd e1 (hn' _)
   subst e1;rcases e2 with e2 | ⟨_,e2⟩
   .exact⟨hold hu ho,b,.inr e2,.base⟩
   exact absurd e2 hbn
  obtain⟨g1,w,g2,g3⟩:=ih.resolve_left han;refine⟨g1,w,g2,.step g3 hk ?_⟩;rcases e with⟨ho,e⟩| ⟨ho,e⟩| ⟨c,⟨ho,e1⟩,⟨_,e2⟩⟩
  .exact .inl ⟨hold han ho,e.resolve_right λe=>hbn e.2⟩
  .exact .inr (.inl ⟨hold hbn ho,e.resolve_right λe=>han e.2⟩)
  have e1:=e1.resolve_right λe=>han e.2
  have e2:=e2.resolve_right λe=>hbn e.2
  have hc:c≠n:=λe=>hn _ (e ▸ e1)
  exact .inr (.inr ⟨c,⟨hold hc ho,e1⟩,⟨hold hc ho,e2⟩⟩)
theorem zta(hab:∀ i,ab i↔∃ e,kn e/\Anc par e i)(hn:∀ q,¬ par n q)(hn':∀ c,¬ par c n)(hu:u≠n)(hkn:¬ kn n)(ht:t≠n)(hkt:¬ kn t):
  (∃ d,Tr par kn ab u d t)↔zAz par kn t u/\∃ w,(w=u\/par u w)/\¬ kn w/\Mr (zFz par kn t) kn t w:=by
 rw[zFC hab hn hn' hu hkn ht hkt];constructor
 .intro h;obtain⟨g1,w,g2,g3⟩:=(zEN hn hn' hu h).resolve_left ht;exact⟨g1,w,g2,g3.zIC hkt,g3.zDE hkt⟩
 rintro⟨g1,w,g2,g3,g4⟩;have ho:ztS par kn n u t u:=(zjR hn hu hu).2 g1;have hl:Mr (kept par kn n u t) kn w t:=(g4.zDE g3).mono λc q ⟨h1,h2⟩=>⟨(zjR hn hu λe=>hn _ (e ▸ h2)).2 h1,.inl h2⟩
 refine(Mr.step .base hkn ?_).trans hl;rcases g2 with rfl | g2
 .exact .inr (.inl ⟨ho,.inr ⟨rfl,rfl⟩⟩)
 exact .inr (.inr ⟨u,⟨ho,.inr ⟨rfl,rfl⟩⟩,⟨ho,.inl g2⟩⟩)
theorem ztl(hab:∀ i,ab i↔∃ e,kn e/\Anc par e i)(hn:∀ q,¬ par n q)(hn':∀ c,¬ par c n)(hkn:¬ kn n)(ht:t≠n)(hkt:¬ kn t){w:Nat}(han:a≠n)(hbn:b≠n)(ha:∃ d,Tr par kn ab a d t)(hb:¬ ∃ d,Tr par kn ab b d t)(ho:zAz par kn t b)(hwa:w=a\/par a w)(hwb:w=b\/par b w):kn w:=by
 refine qbD λhk=>hb ((zta hab hn hn' hbn hkn ht hkt).2 ⟨ho,w,hwb,hk,?_⟩)
 obtain⟨g1,z,g2,g3,g4⟩:=(zta hab hn hn' han hkn ht hkt).1 ha;rcases g2 with rfl | g2
 .rcases hwa with rfl | hwa
  .exact g4
  exact .step g4 g3 (.inl ⟨g1,hwa⟩)
 rcases hwa with rfl | hwa
 .exact .step g4 g3 (.inr (.inl ⟨g1,g2⟩))
 exact .step g4 g3 (.inr (.inr ⟨a,⟨g1,g2⟩,⟨g1,hwa⟩⟩))
end
def zkg(ms:List Nat)(c p:Nat):Prop:=(ms.getD c 0).testBit p=true
variable{a b:Nat}
theorem zpX{ms:List Nat}:Anc (zkg ms) a b↔Reach ms a b:=by
 constructor
 .intro h;induction h with
  | refl=>exact .refl _
  | up _ e ih=>exact ih.tr (.step e (.refl _))
 intro h;induction h with
 | refl=>exact .refl _
 | step e _ ih=>exact(Anc.up (.refl _) e).tr ih
abbrev zfz(K i:Nat):Prop:=K.testBit i=true
structure ChOk (ms cs:List Nat):Prop where
 n:ms.length<=60
 len:cs.length=ms.length
 lt:∀ m∈ms,m<18446744073709551616
 clt:∀ m∈cs,m<18446744073709551616
 e:EOk ms
 zDE:∀ p c,(cs.getD p 0).testBit c=true↔(ms.getD c 0).testBit p=true
structure FlOk (ms:List Nat) (K A u D U:Nat):Prop where
 dl:D<18446744073709551616
 ul:U<18446744073709551616
 st:D.testBit u=true
 d:∀ i,D.testBit i=true->Tr (zkg ms) (zfz K) (zfz A) u false i
 up:∀ i,U.testBit i=true->Tr (zkg ms) (zfz K) (zfz A) u true i
theorem zFU{ms:List Nat}(he:EOk ms){kn ab:Nat->Prop}{u:Nat}(hu:u<ms.length){d:Bool}{x:Nat}(h:Tr (zkg ms) kn ab u d x):x<ms.length:=by
 cases h with
 | start=>exact hu
 | dn _ _ e=>exact(he _ _ e).1
 | tu _ _ e=>exact(he _ _ e).2
 | uu _ _ e=>exact(he _ _ e).2
theorem zxN(h:Sub a b)(hne:b≠a):∃ x,a.testBit x=false/\b.testBit x=true:=by
 refine qbD λhno=>hne ?_
 refine Sub.zGA (λi hi=>?_) h;cases ha:a.testBit i with
 | true=>rfl
 | false=>exact absurd ⟨i,ha,hi⟩ hno
theorem zAK(a b:Nat):Sub a (a ||| b):=λi hi=>by rw[qbw,hi,Bool.true_or]
def zBR(ms cs:List Nat)(K A D U w:Nat):Prop:=
 ((D.testBit w=true\/U.testBit w=true)->K.testBit w=false->Sub (cs.getD w 0) D)/\(((D.testBit w=true/\A.testBit w=true)\/(U.testBit w=true/\K.testBit w=false))->Sub (ms.getD w 0) U)
theorem zpZ(h:a ||| b=a):Sub b a:=λi hi=>by
 rw[<- h,qbw,hi,Bool.or_true]
theorem zoQ{ms cs:List Nat}(hc:ChOk ms cs){K A u D U:Nat}(hK:K<18446744073709551616)(hA:A<18446744073709551616)(hu:u<ms.length)(hf:FlOk ms K A u D U):∀(n v:Nat),v<=ms.length->ms.length - v<n->(∀ w,w<v->zBR ms cs K A D U w)->
  (zaZ (iL ms) (D:Int) (U:Int) (K:Int) (iL cs) (A:Int) n (v:Int)=some (.go ())/\∀ w,w<ms.length->zBR ms cs K A D U w)\/
  ∃ D' U':Nat,zaZ (iL ms) (D:Int) (U:Int) (K:Int) (iL cs) (A:Int) n (v:Int)=some (.brk ((D':Int),(U':Int)))/\FlOk ms K A u D' U'/\cnt ms.length D+cnt ms.length U<cnt ms.length D'+cnt ms.length U'
 | 0,_,_,h,_=>absurd h (qam _)
 | n+1,v,hv,hn,hs=>by
  have hn60:=hc.n;unfold zaZ;rw[zal,zaT];by_cases hlt:v<ms.length
  .have hor:D ||| U<18446744073709551616:=qbu (n:=64) hf.dl hf.ul;have hda:D &&& A<18446744073709551616:=qbT Nat.and_le_left hf.dl;have hB:(D &&& A)||| diff U K<18446744073709551616:=qbu (n:=64) hda (zkc _ _);have hcv:=zi8 hc.clt v;have hmv:=zi8 hc.lt v;have hcl:v<cs.length:=by rw[hc.len]; exact hlt
   obtain⟨q4,a1,a2⟩:=zyN (a:=diff (D ||| U) K) (v:=v) (zkc _ _) (by omega);obtain⟨q9,b1,b2⟩:=zyN (a:=(D &&& A)||| diff U K) (v:=v) hB (by omega);have t1:(diff (D ||| U) K).testBit v=((D.testBit v || U.testBit v) && !K.testBit v):=by rw[ziL hor hK,qbw]
   have t2:((D &&& A)||| diff U K).testBit v=((D.testBit v && A.testBit v)|| (U.testBit v && !K.testBit v)):=by rw[qbw,Nat.testBit_and,ziL hf.ul hK]
   obtain⟨D',hD'⟩:∃ D',D'=(bif (D.testBit v || U.testBit v) && !K.testBit v then D ||| cs.getD v 0 else D):=⟨_,rfl⟩;obtain⟨U',hU'⟩:∃ U',U'=(bif (D.testBit v && A.testBit v)|| (U.testBit v && !K.testBit v)then U ||| ms.getD v 0 else U):=⟨_,rfl⟩;have e1:((bif ((ziv .u64 q4 1)== 1)then((zaE (iL cs) (v:Int)).bind λx7=>some (orI .u64 (D:Int) x7))else some (D:Int):Option Int))=some (D':Int):=by
    rw[a2,t1,hD'];cases(D.testBit v || U.testBit v) && !K.testBit v with
    | true=>rw[show((((true:Bool).toNat:Nat):Int)== 1)=true from rfl,qdt,qdt,zo6 hcl,qaa,orU hf.dl hcv]
    | false=>rfl
   have e2:((bif ((ziv .u64 q9 1)== 1)then((zaE (iL ms) (v:Int)).bind λx12=>some (orI .u64 (U:Int) x12))else some (U:Int):Option Int))=some (U':Int):=by
    rw[b2,t2,hU'];cases(D.testBit v && A.testBit v)|| (U.testBit v && !K.testBit v)with
    | true=>rw[show((((true:Bool).toNat:Nat):Int)== 1)=true from rfl,qdt,qdt,zo6 hlt,qaa,orU hf.ul hmv]
    | false=>rfl
   have hsD:Sub D D':=by
    rw[hD'];cases(D.testBit v || U.testBit v) && !K.testBit v with
    | true=>exact zAK _ _
    | false=>exact Sub.zGb
   have hsU:Sub U U':=by
    rw[hU'];cases(D.testBit v && A.testBit v)|| (U.testBit v && !K.testBit v)with
    | true=>exact zAK _ _
    | false=>exact Sub.zGb
   have hFl:FlOk ms K A u D' U':=by
    refine⟨?_,?_,hsD _ hf.st,λi hi=>?_,λi hi=>?_⟩
    .rw[hD'];cases(D.testBit v || U.testBit v) && !K.testBit v with
     | true=>exact qbu (n:=64) hf.dl hcv
     | false=>exact hf.dl
    .rw[hU'];cases(D.testBit v && A.testBit v)|| (U.testBit v && !K.testBit v)with
     | true=>exact qbu (n:=64) hf.ul hmv
     | false=>exact hf.ul
    .rw[hD']at hi;cases hb:(D.testBit v || U.testBit v) && !K.testBit v with
     | false=>rw[hb,qdu]at hi; exact hf.d i hi
     | true=>
      rw[hb,qdt,qbw,qbt]at hi;rcases hi with hi | hi
      .exact hf.d i hi
      obtain⟨k1,k2⟩:=qbE.1 hb;have k2':¬ zfz K v:=by
       intro hk;rw[show K.testBit v=true from hk]at k2;cases k2
      rcases qcJ.1 k1 with k1 | k1
      .exact .dn (hf.d v k1) k2' ((hc.zDE v i).1 hi)
      exact .dn (hf.up v k1) k2' ((hc.zDE v i).1 hi)
    rw[hU']at hi;cases hb:(D.testBit v && A.testBit v)|| (U.testBit v && !K.testBit v)with
    | false=>rw[hb,qdu]at hi; exact hf.up i hi
    | true=>
     rw[hb,qdt,qbw,qbt]at hi;rcases hi with hi | hi
     .exact hf.up i hi
     rcases qcJ.1 hb with k | k
     .obtain⟨k1,k2⟩:=qbE.1 k;exact .tu (hf.d v k1) k2 hi
     obtain⟨k1,k2⟩:=qbE.1 k;exact .uu (hf.up v k1) (λhk=>by rw[show K.testBit v=true from hk]at k2; cases k2) hi
   have hin:∀ {D U:Nat},FlOk ms K A u D U->(∀ x,D.testBit x=true->x<ms.length)/\(∀ x,U.testBit x=true->x<ms.length):=λh=>⟨λx hx=>zFU hc.e hu (h.d x hx),λx hx=>zFU hc.e hu (h.up x hx)⟩
   rw[qdv hlt,qdt,orU hf.dl hf.ul,zGl,a1,qaa,e1,qaa,zGO hf.dl hA,zGl,orU hda (zkc _ _),b1,qaa,e2,qaa];by_cases c1:D'=D
   .by_cases c2:U'=U
    .rw[c1,c2,qdx,qdt,qdx,qbs,qaa,qdu,zai (by omega)];refine zoQ hc hK hA hu hf n (v+1) hlt (by omega) λw hw=>?_
     by_cases ew:w=v
     .subst ew;refine⟨λk1 k2=>?_,λk1=>?_⟩
      .have:((D.testBit w || U.testBit w) && !K.testBit w)=true:=by rw[k2,qcJ.2 k1]; rfl
       rw[this,qdt]at hD';exact zpZ (hD'.symm.trans c1)
      have:((D.testBit w && A.testBit w)|| (U.testBit w && !K.testBit w))=true:=by
       rcases k1 with⟨k1,k2⟩| ⟨k1,k2⟩
       .rw[k1,k2]; rfl
       rw[k1,k2]; simp
      rw[this,qdt]at hU';exact zpZ (hU'.symm.trans c2)
     exact hs w (by omega)
    rw[c1,qdx,qdt,show(((U':Nat):Int)==(U:Int))=false from by rw[qdA]; omega,qcz,qaa,qdt];refine .inr ⟨D,U',rfl,c1 ▸ hFl,?_⟩;obtain⟨x,x1,x2⟩:=zxN hsU c2;have:=zsr hsU ⟨x,(hin hFl).2 x x2,x1,x2⟩;omega
   rw[show(((D':Nat):Int)==(D:Int))=false from by rw[qdA]; omega,qdu,qaa,qdt];refine .inr ⟨D',U',rfl,hFl,?_⟩;obtain⟨x,x1,x2⟩:=zxN hsD c1;have h1:=zsr hsD ⟨x,(hin hFl).1 x x2,x1,x2⟩;by_cases c2:U'=U
   .rw[c2]; omega
   obtain⟨y,y1,y2⟩:=zxN hsU c2;have:=zsr hsU ⟨y,(hin hFl).2 y y2,y1,y2⟩;omega
  rw[qdw hlt,qdu];exact .inl ⟨rfl,λw hw=>hs w (by omega)⟩
variable{A:Nat}
theorem zuC{ms cs:List Nat}(hc:ChOk ms cs){K u D U:Nat}(hf:FlOk ms K A u D U)(hs:∀ w,w<ms.length->zBR ms cs K A D U w){d:Bool}{x:Nat}(h:Tr (zkg ms) (zfz K) (zfz A) u d x):(bif d then U else D).testBit x=true:=by
 have hk:∀ {i},¬ zfz K i->K.testBit i=false:=λ{i} h=>by
  cases hb:K.testBit i with
  | false=>rfl
  | true=>exact absurd hb h
 induction h with
 | start=>exact hf.st
 | @dn d v c _ h2 e ih=>
  refine(hs v (hc.e _ _ e).2).1 ?_ (hk h2) c ((hc.zDE v c).2 e);cases d with
  | true=>exact .inr ih
  | false=>exact .inl ih
 | @tu v p _ h2 e ih=>exact(hs v (hc.e _ _ e).1).2 (.inl ⟨ih,h2⟩) p e
 | @uu v p _ h2 e ih=>exact(hs v (hc.e _ _ e).1).2 (.inr ⟨ih,hk h2⟩) p e
theorem zov{ms cs:List Nat}(hc:ChOk ms cs){K A u:Nat}(hK:K<18446744073709551616)(hA:A<18446744073709551616)(hu:u<ms.length):∀(n D U:Nat),FlOk ms K A u D U->2 * ms.length - (cnt ms.length D+cnt ms.length U)<n ->
  ∃ F:Nat,zbq (iL ms) (K:Int) (iL cs) (A:Int) n (D:Int) (U:Int)=some (.ret (F:Int))/\F<18446744073709551616/\∀ i,F.testBit i=true↔(∃ d,Tr (zkg ms) (zfz K) (zfz A) u d i)/\¬ zfz K i
 | 0,_,_,_,h=>absurd h (qam _)
 | n+1,D,U,hf,hn=>by
  unfold zbq;have hor:D ||| U<18446744073709551616:=qbu (n:=64) hf.dl hf.ul;rcases zoQ hc hK hA hu hf (ms.length+2) 0 (qau _) (by omega) (λw h=>absurd h (qam _))with⟨h1,h2⟩| ⟨D',U',h1,h2,h3⟩
  .rw[zal,zaK,show zaZ (iL ms) (D:Int) (U:Int) (K:Int) (iL cs) (A:Int) (ms.length+2) 0=_ from h1,qaa,orU hf.dl hf.ul,zGl];refine⟨diff (D ||| U) K,rfl,zkc _ _,λi=>?_⟩;rw[ziL hor hK,qbw,qai,qbt,qbh];constructor
   .rintro⟨h,hk⟩;refine⟨?_,λhb=>by rw[show K.testBit i=true from hb]at hk; cases hk⟩;rcases h with h | h
    .exact⟨false,hf.d i h⟩
    exact⟨true,hf.up i h⟩
   rintro⟨⟨d,h⟩,hk⟩;have:=zuC hc hf h2 h;refine⟨?_,by cases hb:K.testBit i with | false=>rfl | true=>exact absurd hb hk⟩;cases d with
   | true=>exact .inr this
   | false=>exact .inl this
  rw[zal,zaK,show zaZ (iL ms) (D:Int) (U:Int) (K:Int) (iL cs) (A:Int) (ms.length+2) 0=_ from h1,qaa];have c1:=zAq ms.length D';have c2:=zAq ms.length U';exact zov hc hK hA hu n D' U' h2 (by omega)
variable{N:Nat}
theorem zyi{ms cs:List Nat}(hc:ChOk ms cs){K u:Nat}(hK:K<18446744073709551616)(hA:A<18446744073709551616)(hu:u<ms.length)(hN:200<=N):
  ∃ F:Nat,zcd N (u:Int) (iL ms) (iL cs) (K:Int) (A:Int)=some (F:Int)/\F<18446744073709551616/\∀ i,F.testBit i=true↔(∃ d,Tr (zkg ms) (zfz K) (zfz A) u d i)/\¬ zfz K i:=by
 have hn60:=hc.n;have hp:2 ^ u<18446744073709551616:=(qbj (by decide) (show u<64 by omega):2 ^ u<2 ^ 64)
 obtain⟨F,f1,f2,f3⟩:=zov hc hK hA hu N (2 ^ u) 0 ⟨hp,by decide,by rw[qb8]; exact qdv rfl,λi hi=>by
  rw[qb8]at hi
  exact of_decide_eq_true hi ▸ .start,λi hi=>by simp at hi⟩ (by omega)
 refine⟨F,?_,f2,f3⟩;unfold zcd;rw[zx5 (by omega),qaa,show zbq (iL ms) (K:Int) (iL cs) (A:Int) N ((2 ^ u:Nat):Int) 0=_ from f1,qaa]
structure PcOk (ns:List NN) (i:Nat) (ts:List Nat) (P Q:List Nat):Prop where
 pl:P.length=ns.length
 ql:Q.length=ns.length
 plt:∀ m∈P,m<18446744073709551616
 qlt:∀ m∈Q,m<18446744073709551616
 p:∀ c q,(P.getD c 0).testBit q=true↔(c<i/\q∈(ns.getD c zdd).ps)\/(c=i/\q∈ts)
 q:∀ q c,(Q.getD q 0).testBit c=true↔(c<i/\q∈(ns.getD c zdd).ps)\/(c=i/\q∈ts)
theorem zAl{xs:List Nat}{i y:Nat}(h:∀ m∈xs,m<18446744073709551616)(hy:y<18446744073709551616):∀ m∈xs.set i y,m<18446744073709551616:=λm hm=>by
 rcases qbV hm with hm | rfl
 .exact h m hm
 exact hy
theorem zEU{g:Nat}{ns:List NN}(h:RightN g ns){i:Nat}(hi:i<ns.length){q:S_eliminate_query}:∀(n k:Nat) (P Q:List Nat),PcOk ns i ((ns.getD i zdd).ps.take k) P Q->k<=(ns.getD i zdd).ps.length->(ns.getD i zdd).ps.length - k<n ->
  ∃ P' Q',zaM (nd (ns.getD i zdd)) (i:Int) q n (k:Int) (iL P) (iL Q)=some (iL P',iL Q')/\PcOk ns i (ns.getD i zdd).ps P' Q'
 | 0,_,_,_,_,_,h=>absurd h (qam _)
 | n+1,k,P,Q,hp,hk,hf=>by
  have hn8:=h.n2;unfold zaM;rw[show(nd (ns.getD i zdd)).parents=iL (ns.getD i zdd).ps from rfl,zal,zaT];by_cases hlt:k<(ns.getD i zdd).ps.length
  .obtain⟨x,hx⟩:∃ x,(ns.getD i zdd).ps[k]=x:=⟨_,rfl⟩;have hxm:x∈(ns.getD i zdd).ps:=hx ▸ qao hlt;have hxn:x<ns.length:=by
    have:=(h.stc hi).var x (zef.2 (.inr hxm))
    rwa [qak]at this
   have htk:(ns.getD i zdd).ps.take (k+1)=(ns.getD i zdd).ps.take k ++ [x]:=by rw[List.take_add_one,qac hlt,hx]; rfl
   have hx64:2 ^ x<18446744073709551616:=(qbj (by decide) (show x<64 by omega):2 ^ x<2 ^ 64);have hi64:2 ^ i<18446744073709551616:=(qbj (by decide) (show i<64 by omega):2 ^ i<2 ^ 64);have hPi:i<P.length:=by rw[hp.pl]; exact hi
   have hQx:x<Q.length:=by rw[hp.ql]; exact hxn
   have hp1:=zi8 hp.plt i;have hq1:=zi8 hp.qlt x;have l8:(ns.getD i zdd).ps.length<=8:=by
    have hm:ns.getD i zdd∈ns:=zrs hi;exact h.zEV hm
   rw[qdv hlt,qdt,za5 hlt,hx,qaa,zo6 hPi,qaa,zx5 (by omega),qaa,orU hp1 hx64,zi1 hPi,qaa,zo6 hQx,qaa,zx5 (by omega),qaa,orU hq1 hi64,zi1 hQx,qaa,zai (by omega)];refine zEU h hi n (k+1) _ _ ⟨by rw[qaw]; exact hp.pl,by rw[qaw]; exact hp.ql,zAl hp.plt (qbu (n:=64) hp1 hx64),zAl hp.qlt (qbu (n:=64) hq1 hi64),λc y=>?_,λy c=>?_⟩ hlt (by omega)
   .rw[zrI hPi,htk,qa9,qaJ];by_cases e:i=c
    .subst e;rw[if_pos rfl,qbw,qb8,qbt,hp.p,qdB];constructor
     .rintro((a | a)| a)
      .exact .inl a
      .exact .inr ⟨rfl,.inl a.2⟩
      exact .inr ⟨rfl,.inr a.symm⟩
     rintro(a | ⟨_,a | a⟩)
     .exact .inl (.inl a)
     .exact .inl (.inr ⟨rfl,a⟩)
     exact .inr a.symm
    rw[if_neg e,hp.p];constructor
    .rintro(a | a)
     .exact .inl a
     exact absurd a.1.symm e
    rintro(a | a)
    .exact .inl a
    exact absurd a.1.symm e
   rw[zrI hQx,htk,qa9,qaJ];by_cases e:x=y
   .subst e;rw[if_pos rfl,qbw,qb8,qbt,hp.q,qdB];constructor
    .rintro((a | a)| a)
     .exact .inl a
     .exact .inr ⟨a.1,.inl a.2⟩
     exact .inr ⟨a.symm,.inr rfl⟩
    rintro(a | ⟨a,b | _⟩)
    .exact .inl (.inl a)
    .exact .inl (.inr ⟨a,b⟩)
    exact .inr a.symm
   rw[if_neg e,hp.q];constructor
   .rintro(a | a)
    .exact .inl a
    exact .inr ⟨a.1,.inl a.2⟩
   rintro(a | ⟨a,b | b⟩)
   .exact .inl a
   .exact .inr ⟨a,b⟩
   exact absurd b.symm e
  have hk':k=(ns.getD i zdd).ps.length:=by omega
  rw[qdw hlt,qdu];refine⟨P,Q,rfl,?_⟩;rw[hk',qbX]at hp;exact hp
theorem zCn{g:Nat}{ns:List NN}(h:RightN g ns){e:List Int}(he:EvOk (ns.map (·.c)) e){q:S_eliminate_query}(hq:q.net=zbx g ns)(hk:q.known=e):∀(n i M:Nat) (P Q:List Nat),PcOk ns i [] P Q->i<=ns.length->ns.length - i<n->M<18446744073709551616->(∀ j,M.testBit j=(decide (j<i) && knE e j))->
  ∃(K:Nat) (P' Q':List Nat),zaA q n (M:Int) (i:Int) (iL P) (iL Q)=some ((K:Int),iL P',iL Q')/\PcOk ns ns.length [] P' Q'/\K<18446744073709551616/\∀ j,K.testBit j=(decide (j<ns.length) && knE e j)
 | 0,_,_,_,_,_,_,h,_,_=>absurd h (qam _)
 | n+1,i,M,P,Q,hp,hi,hf,hM,hb=>by
  have hn8:=h.n2;have hnl:(zbx g ns).nodes.length=ns.length:=by simp[zbx]
  unfold zaA;rw[hq,hnl,zaT];by_cases hlt:i<ns.length
  .have hx:ns.getD i zdd=ns[i]:=by rw[qag,qac hlt]; rfl
   have hel:i<e.length:=by rw[he.len,qak]; exact hlt
   have hxe:e[i]=e.getD i (-1):=by rw[qag,qac hel]; rfl
   have l8:(ns.getD i zdd).ps.length<=8:=h.zEV (zrs hlt);obtain⟨P',Q',g1,g2⟩:=zEU h hlt (q:=q) ((ns.getD i zdd).ps.length+2) 0 P Q (by rw[qb0]; exact hp) (qau _) (by omega);have hp':PcOk ns (i+1) [] P' Q':=by
    refine⟨g2.pl,g2.ql,g2.plt,g2.qlt,λc y=>?_,λy c=>?_⟩
    .rw[g2.p];constructor
     .rintro(a | ⟨rfl,a⟩)
      .exact .inl ⟨by omega,a.2⟩
      exact .inl ⟨by omega,a⟩
     rintro(⟨a,b⟩| ⟨_,a⟩)
     .by_cases ec:c=i
      .exact .inr ⟨ec,ec ▸ b⟩
      exact .inl ⟨by omega,b⟩
     cases a
    rw[g2.q];constructor
    .rintro(a | ⟨rfl,a⟩)
     .exact .inl ⟨by omega,a.2⟩
     exact .inl ⟨by omega,a⟩
    rintro(⟨a,b⟩| ⟨_,a⟩)
    .by_cases ec:c=i
     .exact .inr ⟨ec,ec ▸ b⟩
     exact .inl ⟨by omega,b⟩
    cases a
   rw[qdv hlt,qdt,show zaE (zbx g ns).nodes (i:Int)=some (nd ns[i])from zcw hlt,qaa,<- hx,show(nd (ns.getD i zdd)).parents=iL (ns.getD i zdd).ps from rfl,zal,zaK,
    show zaM (nd (ns.getD i zdd)) (i:Int) q ((ns.getD i zdd).ps.length+2) 0 (iL P) (iL Q)=_ from g1,qaa]
   simp only[];rw[hk,zba hel,qaa,hxe];cases hkn:knE e i with
   | false=>
    rw[show decide (0<=e.getD i (-1))=false from hkn,qdu,qaa,zai (by omega)];refine zCn h he hq hk n (i+1) M P' Q' hp' hlt (by omega) hM λj=>?_
    rw[hb];by_cases ej:j=i
    .subst ej; rw[hkn,qc0,qc0]
    .congr 1
     rw[qcp,qdB,qdB];omega
   | true=>
    have hi64:2 ^ i<18446744073709551616:=(qbj (by decide) (show i<64 by omega):2 ^ i<2 ^ 64);rw[show decide (0<=e.getD i (-1))=true from hkn,qdt,zx5 (by omega),qaa,orU hM hi64,qaa,zai (by omega)];refine zCn h he hq hk n (i+1) (M ||| 2 ^ i) P' Q' hp' hlt (by omega) (zC1 hM (by omega)) λj=>?_
    rw[zuv,hb];by_cases ej:j=i
    .subst ej;rw[hkn,qdv (rfl:j=j),Bool.or_true,qdv (qbo j)];rfl
    rw[show decide (i=j)=false from qdw (λh=>ej h.symm),Bool.or_false];congr 1
    rw[qcp,qdB,qdB];omega
  have hie:i=ns.length:=by omega
  subst hie;rw[qdw hlt,qdu];exact⟨M,P,Q,rfl,hp,hM,hb⟩
variable{ns:List NN}
theorem zkn{c q:Nat}:((zan ns).getD c 0).testBit q=true↔c<ns.length/\q∈(ns.getD c zdd).ps:=by
 unfold zan;rw[qag,qag,qa6];by_cases hc:c<ns.length
 .rw[qac hc];show(zeP (ns[c]).ps).testBit q=true↔_;rw[zf6,qdB];exact⟨λh=>⟨hc,h⟩,λh=>h.2⟩
 rw[qbx (by omega)];constructor
 .intro h; simp at h
 exact λh=>absurd h.1 hc
variable{g:Nat}
theorem zyk(h:RightN g ns){P Q:List Nat}(hp:PcOk ns ns.length [] P Q):P=zan ns/\ChOk (zan ns) Q:=by
 have hml:(zan ns).length=ns.length:=by simp[zan]
 have hn8:=h.n2;have hP:P=zan ns:=by
  refine qbJ (by rw[hp.pl,hml]) λi a b=>?_
  refine qcY λj=>?_
  have h1:=hp.p i j;have h2:=zkn (ns:=ns) (c:=i) (q:=j);rw[qag,qac a,qbA]at h1;rw[qag,qac b,qbA]at h2;rw[qcp,h1,h2];exact⟨λh=>h.elim id (λh=>nomatch h.2),.inl⟩
 refine⟨hP,by rw[hml]; omega,by rw[hp.ql,hml],h.zjj,hp.qlt,h.eok,λp c=>?_⟩;rw[hp.q,zkn];exact⟨λh=>h.elim id (λh=>nomatch h.2),.inl⟩
theorem zD7{q:S_eliminate_query}{ms:List Nat}(hql:q.net.nodes.length=ms.length)(hn:ms.length<=60)(hm:∀ m∈ms,m<18446744073709551616):∀(k n v s:Nat),v+k=ms.length->s<18446744073709551616->k<n ->
  zaN q (iL ms) n (s:Int) (v:Int)=some (((List.range' v k).foldl (upS ms) s:Nat):Int)/\(List.range' v k).foldl (upS ms) s<18446744073709551616
 | k,0,_,_,_,_,h=>absurd h (qam _)
 | 0,n+1,v,s,h1,hs,_=>by
  refine⟨?_,hs⟩;unfold zaN;rw[hql,qax,zaT,qdw (by omega),qdu];rfl
 | k+1,n+1,v,s,h1,hs,h3=>by
  have hv:v<ms.length:=by omega
  obtain⟨g1,g2⟩:=zD7 hql hn hm k n (v+1) (upS ms s v) (by omega) (zFy hm hs) (by omega);refine⟨?_,g2⟩;obtain⟨q30,a1,a2⟩:=zyN (a:=s) (v:=v) hs (by omega);unfold zaN;rw[hql,qax,zaT,qdv hv,qdt,zo6 hv,qaa,a1,qaa,a2,zai (by omega),qb5,qc7];cases hb:s.testBit v with
  | true=>
   rw[show((((true:Bool).toNat:Nat):Int)== 1)=true from rfl,qdt,orU hs (zi8 hm v),qaa,<- g1];unfold upS;rw[if_pos hb]
  | false=>
   rw[show((((false:Bool).toNat:Nat):Int)== 1)=false from rfl,qdu,qaa,<- g1];unfold upS;rw[if_neg (by rw[hb]; decide)]
theorem zFL{q:S_eliminate_query}{ms:List Nat}(hql:q.net.nodes.length=ms.length)(hn:ms.length<=60)(hm:∀ m∈ms,m<18446744073709551616):∀(k n v s:Nat),v+k=ms.length->s<18446744073709551616->k<n ->
  zau q (iL ms) n (s:Int) (v:Int)=some ((iter (upR ms) s k:Nat):Int)/\iter (upR ms) s k<18446744073709551616
 | k,0,_,_,_,_,h=>absurd h (qam _)
 | 0,n+1,v,s,h1,hs,_=>by
  refine⟨?_,hs⟩;unfold zau;rw[hql,zaT,qdw (by omega),qdu];rfl
 | k+1,n+1,v,s,h1,hs,h3=>by
  have hv:v<ms.length:=by omega
  obtain⟨e1,e2⟩:=zD7 hql hn hm ms.length (ms.length+2) 0 s (by omega) hs (by omega);rw[<- qcT]at e1 e2;obtain⟨g1,g2⟩:=zFL hql hn hm k n (v+1) (upR ms s) (by omega) e2 (by omega);rw[ztu];refine⟨?_,g2⟩;unfold zau;rw[show((0:Nat):Int)=0 from rfl]at e1;rw[hql,zaT,qdv hv,qdt,qax,zaK,e1,qaa,zai (by omega)];exact g1
theorem zDi{q:S_eliminate_query}{ms cs:List Nat}(hc:ChOk ms cs)(hql:q.net.nodes.length=ms.length){v:Nat}(hqv:q.node=(v:Int))(hv:v<ms.length){K A N:Nat}(hK:K<18446744073709551616)(hA:A<18446744073709551616)(hN:200<=N)(hkv:¬ zfz K v):∀(n i M:Nat),i<=ms.length->ms.length - i<n->M<18446744073709551616 ->
  (∀ j,M.testBit j=true↔j<i/\∃ d,Tr (zkg ms) (zfz K) (zfz A) j d v)->
  ∃ R:Nat,zaL N q (iL ms) (iL cs) (K:Int) (A:Int) n (M:Int) (i:Int)=some (R:Int)/\R<18446744073709551616/\∀ j,R.testBit j=true↔j<ms.length/\∃ d,Tr (zkg ms) (zfz K) (zfz A) j d v
 | 0,_,_,_,h,_,_=>absurd h (qam _)
 | n+1,i,M,hi,hf,hM,hb=>by
  have hn60:=hc.n;unfold zaL;rw[hql,zaT];by_cases hlt:i<ms.length
  .obtain⟨F,f1,f2,f3⟩:=zyi hc hK hA hlt hN;obtain⟨q39,a1,a2⟩:=zyN (a:=F) (v:=v) f2 (by omega);rw[qdv hlt,qdt,f1,qaa,hqv,a1,qaa,a2];have hfv:=f3 v;cases hFv:F.testBit v with
   | true=>
    have hi64:2 ^ i<18446744073709551616:=(qbj (by decide) (show i<64 by omega):2 ^ i<2 ^ 64);rw[show((((true:Bool).toNat:Nat):Int)== 1)=true from rfl,qdt,zx5 (by omega),qaa,orU hM hi64,qaa,zai (by omega)];refine zDi hc hql hqv hv hK hA hN hkv n (i+1) (M ||| 2 ^ i) hlt (by omega) (zC1 hM (by omega)) λj=>?_
    rw[zuv,qbt,hb,qdB];constructor
    .rintro(a | rfl)
     .exact⟨by omega,a.2⟩
     exact⟨by omega,(hfv.1 hFv).1⟩
    .rintro⟨a,b⟩;by_cases ej:j=i
     .exact .inr ej.symm
     .exact .inl ⟨by omega,b⟩
   | false=>
    rw[show((((false:Bool).toNat:Nat):Int)== 1)=false from rfl,qdu,qaa,zai (by omega)];refine zDi hc hql hqv hv hK hA hN hkv n (i+1) M hlt (by omega) hM λj=>?_
    rw[hb];constructor
    .exact λa=>⟨by omega,a.2⟩
    rintro⟨a,b⟩;by_cases ej:j=i
    .subst ej;have:=hfv.2 ⟨b,hkv⟩;rw[hFv]at this;cases this
    exact⟨by omega,b⟩
  have hie:i=ms.length:=by omega
  subst hie;rw[qdw hlt,qdu];exact⟨M,rfl,hM,hb⟩
structure KaOk (ns:List NN) (e:List Int) (K A:Nat):Prop where
 kl:K<18446744073709551616
 al:A<18446744073709551616
 k:∀ j,K.testBit j=(decide (j<ns.length) && knE e j)
 a:∀ i,zfz A i↔∃ x,zfz K x/\Anc (zkg (zan ns)) x i
variable{e:List Int}{v:Nat}
theorem zs5(h:RightN g ns)(he:EvOk (ns.map (·.c)) e)(hv:v<ns.length)(hN:200<=N):
  ∃ K A R:Nat,KaOk ns e K A/\zaQ N ⟨zbx g ns,e,(v:Int)⟩=some (R:Int)/\R<18446744073709551616/\∀ j,R.testBit j=true↔knE e v=false/\j<ns.length/\∃ d,Tr (zkg (zan ns)) (zfz K) (zfz A) j d v:=by
 have hn8:=h.n2;have hnl:(zbx g ns).nodes.length=ns.length:=by simp[zbx]
 have hml:(zan ns).length=ns.length:=by simp[zan]
 have hz:∀ c q,((List.replicate ns.length 0).getD c 0).testBit q=true->False:=λc q hh=>by
  rw[qag,List.getElem?_replicate]at hh;split at hh<;>simp at hh
 have hp0:PcOk ns 0 [] (List.replicate ns.length 0) (List.replicate ns.length 0):=by
  refine⟨by simp,by simp,λm hm=>by rw[(qcv.1 hm).2]; decide,λm hm=>by rw[(qcv.1 hm).2]; decide,λc q=>⟨λhh=>(hz c q hh).elim,λhh=>?_⟩,λc q=>⟨λhh=>(hz c q hh).elim,λhh=>?_⟩⟩
  .rcases hh with⟨hh,_⟩| ⟨_,hh⟩
   .exact absurd hh (qam _)
   cases hh
  rcases hh with⟨hh,_⟩| ⟨_,hh⟩
  .exact absurd hh (qam _)
  cases hh
 obtain⟨K,P,Q,g1,g2,g3,g4⟩:=zCn h he (q:=⟨zbx g ns,e,(v:Int)⟩) rfl rfl (ns.length+2) 0 0 _ _ hp0 (qau _) (by omega) (by decide) (λj=>by simp);obtain⟨rfl,hc⟩:=zyk h g2;have hKin:∀ x,K.testBit x=true->x<(zan ns).length:=λx hx=>by
  rw[g4,qai,qdB]at hx;rw[hml]; exact hx.1
 obtain⟨b1,b2⟩:=zFL (q:=⟨zbx g ns,e,(v:Int)⟩) (ms:=zan ns) (by rw[hml]; exact hnl) hc.n h.zjj (zan ns).length ((zan ns).length+2) 0 K (by omega) g3 (by omega);obtain⟨A,hAd⟩:∃ A,A=iter (upR (zan ns)) K (zan ns).length:=⟨_,rfl⟩;rw[<- hAd]at b1 b2;rw[hml]at b1;have hA:∀ i,zfz A i↔∃ x,zfz K x/\Anc (zkg (zan ns)) x i:=λi=>by
  rw[hAd];refine(zFb h.eok hKin i).trans ?_;constructor
  .rintro⟨x,h1,h2⟩; exact⟨x,h1,zpX.2 h2⟩
  rintro⟨x,h1,h2⟩; exact⟨x,h1,zpX.1 h2⟩
 obtain⟨q33,s1,s2⟩:=zyN (a:=K) (v:=v) g3 (by omega);have e0:zd7 8 ((ns.length:Nat):Int) (0:Int)=some (iL (List.replicate ns.length 0)):=by
  rw[zdn (by omega)];simp[iL]
 refine⟨K,A,?_⟩;cases hkv:knE e v with
 | true=>
  refine⟨0,⟨g3,b2,g4,hA⟩,?_,by decide,λj=>⟨λhh=>by simp at hh,λhh=>nomatch hh.1⟩⟩;unfold zaQ;simp only[hnl];rw[e0,qaa,zaK,show zaA ⟨zbx g ns,e,(v:Int)⟩ (ns.length+2) 0 0 (iL (List.replicate ns.length 0)) (iL (List.replicate ns.length 0))=_ from g1,qaa];simp only[];rw[show zau ⟨zbx g ns,e,(v:Int)⟩ (iL (zan ns)) (ns.length+2) (K:Int) 0=_ from b1,qaa,s1,qaa,s2,g4,hkv,qdv hv];rfl
 | false=>
  have hKv:K.testBit v=false:=by rw[g4,hkv,qc0]
  obtain⟨R,r1,r2,r3⟩:=zDi (q:=⟨zbx g ns,e,(v:Int)⟩) hc (by rw[hml]; exact hnl) rfl (by rw[hml]; exact hv) g3 b2 hN (λhh=>by rw[show K.testBit v=true from hh]at hKv; cases hKv) (ns.length+2) 0 0 (qau _) (by omega) (by decide) (λj=>⟨λhh=>by simp at hh,λhh=>absurd hh.1 (qam _)⟩);refine⟨R,⟨g3,b2,g4,hA⟩,?_,r2,λj=>by rw[r3,hml]; exact⟨λhh=>⟨rfl,hh⟩,λhh=>hh.2⟩⟩;unfold zaQ;simp only[hnl];rw[e0,qaa,zaK,show zaA ⟨zbx g ns,e,(v:Int)⟩ (ns.length+2) 0 0 (iL (List.replicate ns.length 0)) (iL (List.replicate ns.length 0))=_ from g1,qaa];simp only[];rw[show zau ⟨zbx g ns,e,(v:Int)⟩ (iL (zan ns)) (ns.length+2) (K:Int) 0=_ from b1,qaa,s1,qaa,s2,hKv];rw[show((((false:Bool).toNat:Nat):Int)== 1)=false from rfl,qdu,show zaL N ⟨zbx g ns,e,(v:Int)⟩ (iL (zan ns)) (iL Q) (K:Int) (A:Int) (ns.length+2) 0 0=_ from r1,qaa]
def qsE(ns:List NN)(e:List Int)(L xs:List Nat)(v:Nat):List S_api_Q:=(List.range ((ns.map (·.c)).getD v 0)).map λx=>qf (wE ns e L xs v x) (tE ns e L xs v)
def zjU(ns:List NN)(e:List Int)(L xs:List Nat)(v:Nat):List S_api_Q×Int:=bif tE ns e L xs v == 0 then([],7)else(qsE ns e L xs v,0)
variable{xs:List Nat}
theorem zHa{L:List Nat}{x:Nat}(hx:x<(ns.map (·.c)).getD v 0):wE ns e L xs v x<=tE ns e L xs v:=zuy (f:=wE ns e L xs v) hx
theorem zvN{g N:Nat}{ns:List NN}(h:RightN g ns){e:List Int}(he:EvOk (ns.map (·.c)) e){v:Nat}(hv:v<ns.length){L xs:List Nat}(hf:FinOk ns e L xs v)(hN:200<=N)(ht:tE ns e L xs v≠0):∀(n i:Nat),i<=ns[v].c->ns[v].c - i<n ->
  zay N (nd ns[v]) ⟨zbx g ns,e,(v:Int)⟩ (((tE ns e L xs v:Nat):Int),0) (iL (zhg ns e L xs).ws) n (i:Int) (((List.range i).map λx=>qf (wE ns e L xs v x) (tE ns e L xs v))++ List.replicate (ns[v].c - i) ⟨0,0⟩)=some (.go (qsE ns e L xs v))
 | 0,_,_,h=>absurd h (qam _)
 | n+1,i,hi,hfu=>by
  have hcc:(ns.map (·.c)).getD v 0=ns[v].c:=by rw[qag,qa6,qac hv]; rfl
  have hc4:=(h.zaF _ (qao hv)).2;unfold zay;rw[show(nd ns[v]).zaF=((ns[v].c:Nat):Int)from rfl,qax,zaT];by_cases hlt:i<ns[v].c
  .have hvl:v<e.length:=by rw[he.len,qak]; exact hv
   have hxe:e[v]=e.getD v (-1):=by rw[qag,qac hvl]; rfl
   have hwl:=zHa (ns:=ns) (e:=e) (L:=L) (xs:=xs) (v:=v) (x:=i) (by rw[hcc]; exact hlt);have hkey:((bif (e.getD v (-1)==(i:Int))then(some ((((tE ns e L xs v:Nat):Int),(0:Int))).1)else(bif (decide (e.getD v (-1)<0))then((zaE (iL (zhg ns e L xs).ws) (i:Int)).bind λx24=>some x24)else some 0):Option Int))=some ((wE ns e L xs v i:Nat):Int):=by
    cases hk:knE e v with
    | true=>
     obtain⟨k1,k2⟩:=he.ve (by rw[qak]; exact hv) hk;have hw:wE ns e L xs v i=bif i == veE e v then tE ns e L xs v else 0:=by
      have e1:∀ x,wE ns e L xs v x=bif x == veE e v then(zhg ns e L xs).val zS else 0:=λx=>by unfold wE; rw[hk,qdt]
      have ht':tE ns e L xs v=(zhg ns e L xs).val zS:=by
       unfold tE;rw[funext e1];exact zsC k1
      rw[e1,ht']
     rw[k2,hw];by_cases eq:i=veE e v
     .rw[<- eq,qdx,qdt,qdx,qdt]
     .rw[show(((veE e v:Nat):Int)==(i:Int))=false from by rw[qdA]; omega,qdu,qdw (by omega),qdu,qdy eq,qdu];rfl
    | false=>
     have hneg:=qdD hk;obtain⟨w1,w2⟩:=hf.w hk;have hil:i<(zhg ns e L xs).ws.length:=by rw[w1,hcc]; exact hlt
     have:=w2 i;rw[qag,qac hil,qbA]at this;rw[show(e.getD v (-1)==(i:Int))=false from by rw[qdA]; omega,qdu,qdv (by omega),qdt,za5 hil,qaa,this]
   have hlen:(((List.range i).map λx=>qf (wE ns e L xs v x) (tE ns e L xs v))++ List.replicate (ns[v].c - i) (⟨0,0⟩:S_api_Q)).length=ns[v].c:=by simp; omega
   obtain⟨q0,hq0⟩:∃ q0,zaE (((List.range i).map λx=>qf (wE ns e L xs v x) (tE ns e L xs v))++ List.replicate (ns[v].c - i) (⟨0,0⟩:S_api_Q)) (i:Int)=some q0:=⟨_,zba (by rw[hlen]; exact hlt)⟩;have hset:zeT (((List.range i).map λx=>qf (wE ns e L xs v x) (tE ns e L xs v))++ List.replicate (ns[v].c - i) (⟨0,0⟩:S_api_Q)) (i:Int) (qf (wE ns e L xs v i) (tE ns e L xs v))=some (((List.range (i+1)).map λx=>qf (wE ns e L xs v x) (tE ns e L xs v))++ List.replicate (ns[v].c - (i+1)) (⟨0,0⟩:S_api_Q)):=by
    rw[zfr (by rw[hlen]; exact hlt),qbY _ _ (by simp),qak,qcQ,qce,show ns[v].c - i=(ns[v].c - (i+1))+1 by omega,qaX,qbS,List.range_succ,qba,qaE];rfl
   rw[qdv hlt,qdt,zba hvl,qaa,hxe,hkey,qaa];simp only[];rw[zFl hN (by omega) (qaq hwl hf.le) hf.le,qaa,hq0,qaa,hset,qaa];simp only[show((0:Int)== 0)=true from rfl,qdt];rw[zai (by omega)];exact zvN h he hv hf hN ht n (i+1) hlt (by omega)
  have hie:i=ns[v].c:=by omega
  rw[qdw hlt,qdu,hie,qce];unfold qsE;rw[hcc];simp
theorem zrw(h:RightN g ns)(he:EvOk (ns.map (·.c)) e)(hv:v<ns.length)(ho:OrdOk ns.length v xs)(hxl:xs.length=ns.length - 1)(hN:200<=N){m:Nat}(hm:m<18446744073709551616)(hmem:knE e v=false->m.testBit v=true):
  zaD N ⟨zbx g ns,e,(v:Int)⟩ (iL xs) (m:Int)=some (zjU ns e ((List.range ns.length).filter λu=>m.testBit u) xs v)/\FinOk ns e ((List.range ns.length).filter λu=>m.testBit u) xs v:=by
 have hn8:=h.n2;obtain⟨L,hL⟩:∃ L,L=(List.range ns.length).filter λu=>m.testBit u:=⟨_,rfl⟩
 have hLlt:∀ u∈L,u<ns.length:=λu hu=>by rw[hL]at hu; exact qaW.1 (qaA.1 hu).1
 have hLl:L.length<=8:=by
  have:=qdi (λu=>m.testBit u) (List.range ns.length);rw[qcQ]at this;rw[hL]; omega
 have hf:=zD5 h he hv ho hxl hLlt hLl λhk=>by rw[hL]; exact qaA.2 ⟨qaW.2 hv,hmem hk⟩
 rw[<- hL];refine⟨?_,hf⟩;obtain⟨u,u1,u2⟩:=zxS (v:=v) h he (vs:=L) hLlt hLl ho (by omega) (q:=⟨zbx g ns,e,(v:Int)⟩) rfl;unfold zaD;rw[zDL h rfl rfl he hm,<- hL,qaa];simp only[show((0:Int)== 0)=true from rfl,qdt];rw[show zdN=some zlv.D from rfl,qaa,show zel ⟨zbx g ns,e,(v:Int)⟩ (dL (zcM ns e L)) (iL xs)=some (⟨zbx g ns,e,(v:Int)⟩,dL (zcM ns e L),iL xs)from rfl,qaa];simp only[];rw[u1,qaa,show zap u zlv.D.vars zlv.D.zaf zlv.D.w=_ from zwf (zyY ns e L xs) u (0,zlv) u2,qaa,show((zyY ns e L xs).getLastD (0,zlv)).2=zhg ns e L xs from by unfold zyY zhg; rw[zk7]];simp only[];rw[show(S_api_Factor.mk (zhg ns e L xs).D.vars (zhg ns e L xs).D.zaf (zhg ns e L xs).D.w)=(zhg ns e L xs).D from rfl,hf.tot,qaa];simp only[show((0:Int)== 0)=true from rfl,qdt];unfold zjU;by_cases ht:tE ns e L xs v=0
 .rw[ht]; rfl
 have hc4:=(h.zaF _ (qao hv)).2
 rw[show(((tE ns e L xs v:Nat):Int)== 0)=false from by rw[qdA]; omega,qdu,show zaE (zbx g ns).nodes (v:Int)=some (nd ns[v])from zcw hv,qaa,show(nd ns[v]).zaF=((ns[v].c:Nat):Int)from rfl,zdn (by omega),qaa,qax,zaK,
  show zay N (nd ns[v]) ⟨zbx g ns,e,(v:Int)⟩ (((tE ns e L xs v:Nat):Int),0) (zhg ns e L xs).D.w (ns[v].c+2) 0 (List.replicate ns[v].c ⟨0,0⟩)=some (.go (qsE ns e L xs v))from zvN h he hv hf hN ht (ns[v].c+2) 0 (qau _) (by omega),qaa,qdy ht,qdu]
theorem zE0(h:RightN g ns){K R:Nat}(hv:v<ns.length)(hk:knE e v=false)(ka:KaOk ns e K A)(hR:∀ j,R.testBit j=true↔knE e v=false/\j<ns.length/\∃ d,Tr (zkg (zan ns)) (zfz K) (zfz A) j d v):
  ∃ od,Cut ns e v (λu=>R.testBit u) od:=by
 have hml:(zan ns).length=ns.length:=by simp[zan]
 have hpar:∀ c q,zkg (zan ns) c q↔c<ns.length/\q∈(ns.getD c zdd).ps:=λc q=>zkn
 have hlt:=λc q (hh:zkg (zan ns) c q)=>h.eok c q hh
 have hkb:∀ j,j<ns.length->(zfz K j↔knE e j=true):=λj hj=>by
  unfold zfz;rw[ka.k,qdv hj,qbF]
 have hkv:¬ zfz K v:=λhh=>by rw[(hkb v hv).1 hh]at hk; cases hk
 have hn:∀ q,¬ zkg (zan ns) ns.length q:=λq hh=>by have:=(hlt _ _ hh).1; omega
 have hn':∀ c,¬ zkg (zan ns) c ns.length:=λc hh=>by have:=(hlt _ _ hh).2; omega
 have hkn:¬ zfz K ns.length:=λhh=>by
  unfold zfz at hh;rw[ka.k,qdw (qca _)]at hh;cases hh
 have hdec:∃ od:Nat->Bool,∀ i,od i=true↔zAz (zkg (zan ns)) (zfz K) v i:=by
  refine⟨λi=>@decide (zAz (zkg (zan ns)) (zfz K) v i) (Classical.propDecidable _),λi=>?_⟩;exact @qdB _ (Classical.propDecidable _)
 obtain⟨od,hod⟩:=hdec;refine⟨od,⟨hv,hk,(hR v).2 ⟨hk,hv,false,.start⟩,λu hu hh=>(hod u).2 (zEa ka.a ((hR u).1 hh).2.2),λu hu hh p hp=>?_,λu hu hh=>(hod u).2 ⟨u,.inr ((hkb u hu).2 hh),.refl u⟩,λa b w ha hb h1 h2 h3 hwa hwb=>?_⟩⟩
 .obtain⟨x,x1,x2⟩:=(hod u).1 hh;exact(hod p).2 ⟨x,x1,.up x2 ((hpar u p).2 ⟨hu,hp⟩)⟩
 have hwl:w<ns.length:=by
  rcases hwa with rfl | hwa
  .exact ha
  have:=(h.stc ha).var w (zef.2 (.inr hwa))
  rwa [qak]at this
 refine(hkb w hwl).1 (ztl ka.a hn hn' hkn (show v≠ns.length by omega) hkv (show a≠ns.length by omega) (show b≠ns.length by omega) ((hR a).1 h1).2.2 (λhh=>?_) ((hod b).1 h3) (hwa.imp id λhh=>(hpar a w).2 ⟨ha,hh⟩) (hwb.imp id λhh=>(hpar b w).2 ⟨hb,hh⟩));have:=(hR b).2 ⟨hk,hb,hh⟩;rw[h2]at this;cases this
theorem zmg(h:RightN g ns)(he:EvOk (ns.map (·.c)) e){K R:Nat}(hv:v<ns.length)(ho:OrdOk ns.length v xs)(hxl:xs.length=ns.length - 1)(ka:KaOk ns e K A)(hR:∀ j,R.testBit j=true↔knE e v=false/\j<ns.length/\∃ d,Tr (zkg (zan ns)) (zfz K) (zfz A) j d v)(f1:FinOk ns e (List.range ns.length) xs v)(f2:FinOk ns e ((List.range ns.length).filter λu=>R.testBit u) xs v):
  ∃ C,(∀ x,x<(ns.map (·.c)).getD v 0->wE ns e (List.range ns.length) xs v x=C * wE ns e ((List.range ns.length).filter λu=>R.testBit u) xs v x)/\tE ns e (List.range ns.length) xs v=C * tE ns e ((List.range ns.length).filter λu=>R.testBit u) xs v:=by
 have hz:=zE8 h;have hC:∃ C,∀ x,x<(ns.map (·.c)).getD v 0->wE ns e (List.range ns.length) xs v x=C * wE ns e ((List.range ns.length).filter λu=>R.testBit u) xs v x:=by
  cases hk:knE e v with
  | true=>
   have hnil:((List.range ns.length).filter λu=>R.testBit u)=[]:=List.filter_eq_nil_iff.2 λu _ hh=>by
    have:=((hR u).1 hh).1;rw[hk]at this;cases this
   refine⟨(zhg ns e (List.range ns.length) xs).val zS,λx _=>?_⟩;have hone:(zhg ns e ((List.range ns.length).filter λu=>R.testBit u) xs).val zS=1:=by
    have hl:zgo (knE e) (zcM ns e []) xs=[]:=List.filter_eq_nil_iff.2 λy _ hh=>by
     rw[show occ (zcM ns e []) y=false from rfl,qc0]at hh;cases hh
    rw[f2.val zS hz,hnil,hl];rfl
   unfold wE;rw[hk,qdt,qdt,hone];cases x == veE e v with
   | true=>rw[qdt,qdt,qb7]
   | false=>rw[qdu,qdu,qdh]
  | false=>
   obtain⟨od,hc⟩:=zE0 h hv hk ka hR;obtain⟨C,hC⟩:=zCT h he hc ho hxl hz;refine⟨C,λx hx=>?_⟩;unfold wE;rw[hk,qdu,qdu,f1.val _ (zhV hz hx),f2.val _ (zhV hz hx)];exact hC x hx
 obtain⟨C,hC⟩:=hC;refine⟨C,hC,?_⟩;unfold tE;rw[zb2 hC,zid]
theorem zoA{m:Nat}(hm:(List.range ns.length).filter (λv=>m.testBit v)=List.range ns.length){v:Nat}(hv:v<ns.length):m.testBit v=true:=by
 have:v∈(List.range ns.length).filter (λv=>m.testBit v):=by rw[hm]; exact qaW.2 hv
 exact(qaA.1 this).2
theorem zzT(h:RightN g ns)(he:EvOk (ns.map (·.c)) e)(hv:v<ns.length)(ho:OrdOk ns.length v xs)(hxl:xs.length=ns.length - 1)(hN:200<=N):
  ∃ m R:Nat,IntKind.u64.wrap (((2 ^ ns.length:Nat):Int) - 1)=(m:Int)/\zaQ N ⟨zbx g ns,e,(v:Int)⟩=some (R:Int)/\
   zaD N ⟨zbx g ns,e,(v:Int)⟩ (iL xs) (m:Int)=some (zjU ns e (List.range ns.length) xs v)/\zaD N ⟨zbx g ns,e,(v:Int)⟩ (iL xs) (R:Int)=some (zjU ns e ((List.range ns.length).filter λu=>R.testBit u) xs v)/\
   (tE ns e (List.range ns.length) xs v≠0->zjU ns e ((List.range ns.length).filter λu=>R.testBit u) xs v=zjU ns e (List.range ns.length) xs v)/\
   (∃ K A,KaOk ns e K A/\∀ j,R.testBit j=true↔knE e v=false/\j<ns.length/\∃ d,Tr (zkg (zan ns)) (zfz K) (zfz A) j d v):=by
 obtain⟨m,m1,m2,m3⟩:=zsi h.n2;obtain⟨K,A,R,ka,r1,r2,r3⟩:=zs5 h he hv hN;obtain⟨p1,f1⟩:=zrw h he hv ho hxl hN m1 (λ_=>zoA m3 hv);obtain⟨p2,f2⟩:=zrw h he hv ho hxl hN r2 (λhk=>(r3 v).2 ⟨hk,hv,false,.start⟩);rw[m3]at p1 f1;refine⟨m,R,m2,r1,p1,p2,λht=>?_,K,A,ka,r3⟩;obtain⟨C,c1,c2⟩:=zmg h he hv ho hxl ka r3 f1 f2;have hC:0<C:=Nat.pos_of_ne_zero λhc=>ht (by rw[c2,hc,qci])
 have ht2:tE ns e ((List.range ns.length).filter λu=>R.testBit u) xs v≠0:=λhc=>ht (by rw[c2,hc,qdh])
 unfold zjU;rw[qdy ht,qdy ht2,qdu,qdu];congr 1
 unfold qsE;refine qaT λx hx=>?_
 rw[c1 x (qaW.1 hx),c2,zBb hC]
end Go.Dc
