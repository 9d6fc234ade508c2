/-
 Plain laws: the moral graph. Conditions: none.
-/
import Derived.Test.YtbjogdohfhdaiaaGreatEcJ4
import Derived.Test.YtbjogdohfhdaiaaGreatEcJ9
import Derived.Test.YtbjogdohfhdaiaaGreatEcJ6
import Derived.Test.YtbjogdohfhdaiaaGreatEcJ5
set_option linter.unusedSimpArgs false
set_option linter.unusedVariables false
namespace Go.Dc
open Go Go.Mx Go.Lx
variable{n:Nat}
theorem zCm{os:List Nat}(hd:os.Nodup)(hl:os.length=n)(hlt:∀ x∈os,x<n):∀ v,v<n->v∈os:=by
 intro v hv;refine qbj λhno=>?_
 have:=zoS (xs:=v :: os) (ys:=List.range n) (qbb.2 ⟨hno,hd⟩) λy hy=>by
  grind
 grind
variable{os:List Nat}
theorem zd5.zF2{ms:List Nat}(h:zd5 ms os)(hl:os.length=ms.length):∀ v p,v<ms.length->(ms.getD v 0).testBit p=true->os.idxOf p<os.idxOf v:=by
 intro v p hv hp;have hmem:=zCm h.nod hl h.lt v hv;have hlt:=List.idxOf_lt_length_iff.2 hmem;have hget:os[os.idxOf v]? = some v:=by rw[qac hlt]; simp
 have h1:=(h _ v hget).ready.2 p hp;rw[zcm]at h1;obtain⟨j,hj,hjp⟩:=List.mem_take_iff_getElem.1 (of_decide_eq_true h1);have hjl:j<os.length:=by omega
 have hpm:p∈os:=by rw[<- hjp]; exact qam _
 have hpl:=List.idxOf_lt_length_iff.2 hpm;have:os.idxOf p=j:=by
  have hd:=h.nod
  grind
 omega
def iter(f:Nat->Nat)(v:Nat):Nat->Nat
 | 0=>v
 | k+1=>f (iter f v k)
theorem zFn(s:Nat->Nat)(h:∀ k,s k<n):∃ i j,i<j/\s i=s j:=by
 refine qbj λhno=>?_
 have hd:((List.range (n+1)).map s).Nodup:=by
  grind [qbi]
 have:=zoS hd (ys:=List.range n) λx hx=>by
  grind
 simp at this;omega
theorem zqj{ms:List Nat}(hb:∀ v p,(ms.getD v 0).testBit p=true->p<ms.length)(hl:os.length<ms.length)(hd:os.Nodup)(hno:∀ v,v<ms.length->¬ ziQ ms (zbs os) v):
  ∃ v p,v<ms.length/\(ms.getD v 0).testBit p=true/\Reach ms p v:=by
 have hf:∀ v,∃ p,v<ms.length->v ∉ os->(ms.getD v 0).testBit p=true/\p<ms.length/\p ∉ os:=by
  intro v;by_cases hv:v<ms.length/\v ∉ os
  .have h1:¬ Sub (ms.getD v 0) (zbs os):=λhs=>hno v hv.1 ⟨by rw[zcm]; simp[hv.2],hs⟩
   have:∃ p,(ms.getD v 0).testBit p=true/\(zbs os).testBit p≠true:=qbj λhn=>h1 λi hi=>qbj λhi2=>hn ⟨i,hi,hi2⟩
   grind [zcm]
  simp_all
 have hx:∃ v,v<ms.length/\v ∉ os:=by
  refine qbj λhn=>?_
  have:=zoS qcM (xs:=List.range ms.length) (ys:=os) λx hx=>qbj λhx2=>hn ⟨x,qbd.1 hx,hx2⟩
  grind
 obtain⟨v0,hv0,hv1⟩:=hx
 let f:Nat->Nat:=λv=>Classical.choose (hf v)
 have hfs:∀ v,v<ms.length->v ∉ os->(ms.getD v 0).testBit (f v)=true/\f v<ms.length/\f v ∉ os:=λv=>Classical.choose_spec (hf v)
 have hin:∀ k,iter f v0 k<ms.length/\iter f v0 k ∉ os:=by
  intro k;induction k with
  | zero=>exact⟨hv0,hv1⟩
  | succ k ih=>exact(hfs _ ih.1 ih.2).2
 obtain⟨i,j,hij,he⟩:=zFn (iter f v0) λk=>(hin k).1
 have hr:∀ d k,Reach ms (iter f v0 k) (iter f v0 (k+d)):=by
  intro d;induction d with
  | zero=>intro k; exact .refl _
  | succ d ih=>
   intro k;have:=ih (k+1);rw[show k+1+d=k+(d+1) by omega]at this;exact .step (hfs _ (hin k).1 (hin k).2).1 this
 refine⟨iter f v0 i,iter f v0 (i+1),(hin i).1,(hfs _ (hin i).1 (hin i).2).1,?_⟩;have:=hr (j - (i+1)) (i+1);rw[show i+1+(j - (i+1))=j by omega,<- he]at this;exact this
variable{a:Nat}
theorem ztk{ms:List Nat}{rk:Nat->Nat}(h:∀ v p,(ms.getD v 0).testBit p=true->rk p<rk v){b:Nat}(hr:Reach ms a b):rk b<=rk a:=by
 induction hr<;>grind
def cnt(n s:Nat):Nat:=(List.range n).countP (s.testBit ·)
theorem zoN{p q:Nat->Bool}:∀ {xs:List Nat},(∀ x∈xs,p x=true->q x=true)->(∃ x∈xs,p x=false/\q x=true)->xs.countP p<xs.countP q
 | [],_,h=>by obtain⟨x,hx,_⟩:=h; cases hx
 | y :: ys,h1,h2=>by
  have hle:ys.countP p<=ys.countP q:=List.countP_mono_left λx hx=>h1 x (qag _ hx)
  rw[List.countP_cons,List.countP_cons];obtain⟨x,hx,h3,h4⟩:=h2;rcases qav.1 hx with rfl | hx
  .grind
  have ih:=zoN (xs:=ys) (λx hx=>h1 x (qag _ hx)) ⟨x,hx,h3,h4⟩
  grind
variable{t:Nat}
theorem zDS{s:Nat}(h1:Sub s t)(h2:∃ x,x<n/\s.testBit x=false/\t.testBit x=true):cnt n s<cnt n t:=by
 obtain⟨x,h3,h4,h5⟩:=h2;exact zoN (λx _ hx=>h1 x hx) ⟨x,qbd.2 h3,h4,h5⟩
theorem zCi{s:Nat}(h:n<=cnt n s):∀ x,x<n->s.testBit x=true:=by
 grind [cnt,List.countP_eq_length]
theorem zi1{n:Nat}(F:Nat->Nat)(h1:∀ s,Sub s (F s))(h2:∀ s,(∀ x,s.testBit x=true->x<n)->∀ x,(F s).testBit x=true->x<n):∀(k s:Nat),(∀ x,s.testBit x=true->x<n)->
  F (iter F s k)=iter F s k\/k<=cnt n (iter F s k)
 | 0,s,_=>.inr (qar _)
 | k+1,s,h=>by
  have hin:∀ j,∀ x,(iter F s j).testBit x=true->x<n:=by
   intro j;induction j<;>grind [iter]
  rcases zi1 F h1 h2 k s h with h3 | h3
  .grind [iter]
  by_cases he:F (iter F s k)=iter F s k
  .grind [iter]
  refine .inr (qb8 h3 (zDS (h1 _) ?_));refine qbj λhno=>he ?_
  apply qcC;intro i;cases hi:(iter F s k).testBit i with
  | true=>exact h1 _ i hi
  | false=>
   cases hf:(F (iter F s k)).testBit i with
   | false=>rfl
   | true=>exact absurd ⟨i,hin (k+1) i hf,hi,hf⟩ hno
def zjk:S_net_network:=⟨⟨0,[]⟩,[],[],[]⟩
def PsV(m v:Int):Int->List Int->Prop
 | _,[]=>True
 | lo,p :: r=>lo<p/\p<m/\p≠v/\PsV m v p r
def znM(m:Int):Int->List Int->Prop
 | _,[]=>True
 | lo,p :: r=>lo<p/\p<m/\znM m p r
theorem PsV.iff{m v:Int}:∀ {ps:List Int} {lo:Int},PsV m v lo ps↔znM m lo ps/\∀ p∈ps,p≠v
 | [],lo=>by simp[PsV,znM]
 | p :: r,lo=>by
  simp only[PsV,znM,PsV.iff (ps:=r) (lo:=p),qav,forall_eq_or_imp]
  grind
theorem znM.zFl{m:Nat}:∀ {ps:List Int} {lo:Int},-1<=lo->znM m lo ps->∃ qs:List Nat,ps=iL qs/\qs.Pairwise (· < ·)/\(∀ q∈qs,lo<(q:Int))/\∀ q∈qs,q<m
 | [],lo,_,_=>⟨[],rfl,List.Pairwise.nil,by simp,by simp⟩
 | p :: r,lo,hl,h=>by
  obtain⟨h1,h2,h3⟩:=h;obtain⟨qs,e,g1,g2,g3⟩:=h3.zFl (by omega);refine⟨p.toNat :: qs,?_,qa3.2 ⟨λq hq=>?_,g1⟩,λq hq=>?_,λq hq=>?_⟩<;> grind [iL]
theorem znM.of{m:Nat}:∀ {qs:List Nat} {lo:Int},qs.Pairwise (· < ·)->(∀ q∈qs,lo<(q:Int))->(∀ q∈qs,q<m)->znM m lo (iL qs)
 | [],lo,_,_,_=>trivial
 | q :: r,lo,h,h1,h2=>by
  obtain⟨h3,h4⟩:=qa3.1 h;show lo<(q:Int)/\(q:Int)<(m:Int)/\znM m (q:Int) (iL r);refine⟨h1 q qai,by have:=h2 q qai; omega,znM.of h4 (λp hp=>by have:=h3 p hp; omega) λp hp=>h2 p (qag _ hp)⟩
theorem zrz{v:Nat}{ns:S_api_Net}{x:S_api_Node}{xs ys:List Nat}(hn:ns.nodes.length<=8)(hv:xs.length=v)(hpl:x.parents.length<=1000):∀(n i m:Nat) (lo:Int),-1<=lo->i<=x.parents.length->m<18446744073709551616->x.parents.length - i<n ->
  (PsV ns.nodes.length v lo (x.parents.drop i)/\∃ qs:List Nat,x.parents.drop i=iL qs/\zcE x ns (v:Int) n lo (i:Int) (iL (xs ++ m :: ys))=some (.go (iL (xs ++ (qs.foldl (λm p=>m ||| 2 ^ p) m):: ys))))\/
  (¬ PsV ns.nodes.length v lo (x.parents.drop i)/\zcE x ns (v:Int) n lo (i:Int) (iL (xs ++ m :: ys))=some (.ret (zjk,50)))
 | 0,_,_,_,_,_,_,h=>absurd h (qaj _)
 | n+1,i,m,lo,hlo,h1,h2,h3=>by
  unfold zcE;by_cases hi:i<x.parents.length
  .have hd:x.parents.drop i=x.parents[i]:: x.parents.drop (i+1):=qas hi;obtain⟨p,hp⟩:∃ p,x.parents[i]=p:=⟨_,rfl⟩;rw[zaz,qdv hi,qdt,zaA hi,qaa,hd,hp];by_cases c1:p<=lo
   .refine .inr ⟨λh=>by have:=h.1; omega,?_⟩;rw[qdv c1,qdt,qaa,qdt]; rfl
   by_cases c2:(ns.nodes.length:Int)<=p
   .refine .inr ⟨λh=>by have:=h.2.1; omega,?_⟩;rw[qdw c1,qdu,qdv c2,qdt,qaa,qdt]; rfl
   by_cases c3:p=(v:Int)
   .refine .inr ⟨λh=>h.2.2.1 c3,?_⟩;rw[qdw c1,qdu,qdw c2,qdu,qaa,show(p ==(v:Int))=true by simp[c3],qdt]; rfl
   obtain⟨q,rfl⟩:∃ q:Nat,p=(q:Int):=⟨p.toNat,by omega⟩;have hpw:2 ^ q<18446744073709551616:=qbh (n:=64) (by decide) (by omega);have hm:m ||| 2 ^ q<18446744073709551616:=qbZ (n:=64) h2 hpw;rw[qdw c1,qdu,qdw c2,qdu,qaa,show((q:Int)==(v:Int))=false by rw[qdy]; exact c3,qdu,<- hv,zd7,qaa,zt7 (by omega),qaa,orU h2 hpw,zgY,qaa,zaf (by omega),hv];rcases zrz (v:=v) (ns:=ns) (x:=x) (xs:=xs) (ys:=ys) hn hv hpl n (i+1) (m ||| 2 ^ q) (q:Int) (by omega) hi hm (by omega)with⟨g1,qs,g2,g3⟩| ⟨g1,g2⟩
   .exact .inl ⟨⟨by omega,by omega,c3,g1⟩,q :: qs,by rw[g2]; rfl,by rw[g3]; rfl⟩
   exact .inr ⟨λh=>g1 h.2.2.2,g2⟩
  rw[zaz,qdw hi,qdu,qaW (by omega)];exact .inl ⟨qds,[],rfl,rfl⟩
theorem zrV{ps:List Int}{m:Int}(hpl:ps.length<=1000):∀(n i:Nat) (lo:Int),-1<=lo->(i=0->lo = -1)->(∀ h:i - 1<ps.length,i≠0->lo=ps[i - 1])->i<=ps.length->ps.length - i<n ->
  (znM m lo (ps.drop i)/\zbU ps m n (i:Int)=some (.go ()))\/(¬ znM m lo (ps.drop i)/\zbU ps m n (i:Int)=some (.ret false))
 | 0,_,_,_,_,_,_,h=>absurd h (qaj _)
 | n+1,i,lo,hlo,h0,hp,h1,h3=>by
  unfold zbU;by_cases hi:i<ps.length
  .have hd:ps.drop i=ps[i]:: ps.drop (i+1):=qas hi;obtain⟨p,hpp⟩:∃ p,ps[i]=p:=⟨_,rfl⟩;rw[zaz,qdv hi,qdt,zaA hi,qaa,hd,hpp];by_cases c1:p<0
   .refine .inr ⟨λh=>by have:=h.1; omega,?_⟩;rw[qdv c1,qdt,qaa,qdt]
   by_cases c2:m<=p
   .refine .inr ⟨λh=>by have:=h.2.1; omega,?_⟩;rw[qdw c1,qdu,qdv c2,qdt,qaa,qdt]
   rw[qdw c1,qdu,qdw c2,qdu];have hrec:lo<p->(znM m lo (p :: ps.drop (i+1))/\zbU ps m n (w64 ((i:Int)+1))=some (.go ()))\/(¬ znM m lo (p :: ps.drop (i+1))/\zbU ps m n (w64 ((i:Int)+1))=some (.ret false)):=by
    intro hlp;rw[zaf (by omega)];rcases zrV hpl n (i+1) p (by omega) (λh=>by omega) (λh _=>by simp only[Nat.add_sub_cancel]; exact hpp.symm) hi (by omega)with⟨g1,g2⟩| ⟨g1,g2⟩
    .exact .inl ⟨⟨hlp,by omega,g1⟩,g2⟩
    exact .inr ⟨λh=>g1 h.2.2,g2⟩
   by_cases c3:i=0
   .have c4:¬ ((0:Int)<(i:Int)):=by omega
    rw[qdw c4,qdu,qaa,qdu];exact hrec (by have:=h0 c3; omega)
   have hi1:i - 1<ps.length:=by omega
   have hlo':=hp hi1 c3;have c4:(0:Int)<(i:Int):=by omega
   rw[qdv c4,qdt,show w64 ((i:Int) - 1)=((i - 1:Nat):Int) by rw[zed (by omega) (by omega)]; omega,zaA hi1,qaa,qaa,<- hlo'];by_cases c5:p<=lo
   .rw[qdv c5,qdt];exact .inr ⟨λh=>by have:=h.1; omega,rfl⟩
   rw[qdw c5,qdu];exact hrec (by omega)
  grind [znM]
theorem zwl{ps:List Int}{m:Int}(hpl:ps.length<=1000):∃ b,zeE ps m=some b/\(b=true↔znM m (-1) ps):=by
 unfold zeE;rw[zap];rcases zrV (m:=m) hpl (ps.length+2) 0 (-1) (by omega) (λ_=>rfl) (λ_ h=>absurd rfl h) (qar _) (by omega)with⟨g1,g2⟩| ⟨g1,g2⟩<;> simp_all
theorem zpm{a b:List Nat}(h:iL a=iL b):a=b:=by
 have:=congrArg (List.map Int.toNat) h;simpa [iL,qbu]using this
def zjJ(g c:Nat)(r:List Int):Prop:=∃ zs:List Nat,r=iL zs/\zs.length=c/\zs.sum=g
theorem zlp{y:Int×List Int}(hl:y.2.length<=1000):∀(n i r:Nat),i<=y.2.length->r<=65536->y.2.length - i<n ->
  (∃ zs:List Nat,y.2.drop i=iL zs/\zs.sum<=r/\zaJ y n (r:Int) (i:Int)=some (.go ((r - zs.sum:Nat):Int)))\/
  ((¬ ∃ zs:List Nat,y.2.drop i=iL zs/\zs.sum<=r)/\zaJ y n (r:Int) (i:Int)=some (.ret false))
 | 0,_,_,_,_,h=>absurd h (qaj _)
 | n+1,i,r,h1,hr,h3=>by
  unfold zaJ;by_cases hi:i<y.2.length
  .have hd:y.2.drop i=y.2[i]:: y.2.drop (i+1):=qas hi;obtain⟨p,hpp⟩:∃ p,y.2[i]=p:=⟨_,rfl⟩;rw[zaz,qdv hi,qdt,zaA hi,qaa,hd,hpp];by_cases c1:p<0
   .refine .inr ⟨λ⟨zs,e,_⟩=>?_,by rw[qdv c1,qdt,qaa,qdt]⟩;cases zs with
    | nil=>cases e
    | cons z zs=>simp only[iL,qaz,qch]at e; omega
   by_cases c2:(r:Int)<p
   .refine .inr ⟨λ⟨zs,e,hs⟩=>?_,by rw[qdw c1,qdu,qaa,qdv c2,qdt]⟩;cases zs with
    | nil=>cases e
    | cons z zs=>simp only[iL,qaz,qch]at e; rw[qcw]at hs; omega
   obtain⟨q,rfl⟩:∃ q:Nat,p=(q:Int):=⟨p.toNat,by omega⟩;rw[qdw c1,qdu,qaa,qdw c2,qdu,show((r:Int) - (q:Int))=((r - q:Nat):Int) by omega,zar (by omega),zaf (by omega)];rcases zlp hl n (i+1) (r - q) hi (by omega) (by omega)with⟨zs,e,hs,g⟩| ⟨g1,g2⟩
   .refine .inl ⟨q :: zs,by rw[e]; rfl,by rw[qcw]; omega,by rw[g,qcw,Nat.sub_sub]⟩
   refine .inr ⟨λ⟨zs,e,hs⟩=>g1 ?_,g2⟩;cases zs with
   | nil=>cases e
   | cons z zs=>
    simp only[iL,qaz,qch]at e;rw[qcw]at hs;exact⟨zs,e.2,by omega⟩
  rw[zaz,qdw hi,qdu,qaW (by omega)];exact .inl ⟨[],rfl,qar _,by simp⟩
theorem zlv{g c:Nat}{nw:S_net_network}{x:S_api_Node}(hg:nw.net.grain=(g:Int))(hg2:g<=60)(hc:x.zaF=(c:Int)):∀(L:List (Int×List Int)),(∀ y∈L,y.2.length<=1000)->
  ((∀ y∈L,zjJ g c y.2)/\zaC nw x L=some (.go ()))\/((¬ ∀ y∈L,zjJ g c y.2)/\zaC nw x L=some (.ret false))
 | [],_=>.inl ⟨λ_ h=>(nomatch h),rfl⟩
 | y :: L,h=>by
  unfold zaC;have hy:=h y qai;rw[hg,zap];rcases zlp hy (y.2.length+2) 0 g (qar _) (by omega) (by omega)with⟨zs,e,hs,e3⟩| ⟨e1,e3⟩
  .rw[show((0:Nat):Int)=0 from rfl]at e3;rw[qa4]at e;rw[e3,qaa];simp only[];rw[hc,e,zai];by_cases c1:zs.length=c
   .rw[show(((zs.length:Nat):Int)==(c:Int))=true by simp[c1],qdt,qaa];by_cases c2:zs.sum=g
    .rw[c2,qcf,show(!(((0:Nat):Int)== 0))=false from rfl,qdu];rcases zlv hg hg2 hc L λy hy=>h y (qag _ hy)with⟨g1,g2⟩| ⟨g1,g2⟩<;> grind [zjJ]
    grind [zpm,zjJ]
   grind [zai,zjJ]
  grind [zjJ]
theorem ztQ(cs:List Nat)(c:Nat):zac (cs ++ [c])=zac cs * c:=by
 induction cs<;>grind [zac]
theorem zqX{cs:List Nat}(h:∀ c∈cs,1<=c/\c<=4)(hl:cs.length<=8):zac cs<=65536:=
 qaq (zib (m:=4) (by omega) λx hx=>(h x hx).2) (qaq (qbs (by decide) hl) (by decide))
theorem zsI{d:S_api_Net}(hn:d.nodes.length<=8):∀(n:Nat) (xs ys:List S_api_Node) (cs:List Nat),xs ++ ys=d.nodes->xs.map (·.zaF)=iL cs->(∀ c∈cs,1<=c/\c<=4)->ys.length<n ->
  zb4 d n ((zac cs:Nat):Int) (xs.length:Int) (iL (cs ++ List.replicate ys.length 0))=some (.ret (zjk,50))\/
  ∃ cs':List Nat,d.nodes.map (·.zaF)=iL cs'/\(∀ c∈cs',1<=c/\c<=4)/\zb4 d n ((zac cs:Nat):Int) (xs.length:Int) (iL (cs ++ List.replicate ys.length 0))=some (.go (((zac cs':Nat):Int),iL cs'))
 | 0,_,_,_,_,_,_,h=>absurd h (qaj _)
 | n+1,xs,[],cs,h1,h2,h4,h3=>by
  grind [zb4]
 | n+1,xs,y :: ys,cs,h1,h2,h4,h3=>by
  unfold zb4;have hxl:cs.length=xs.length:=by have:=congrArg List.length h2; simpa [zai]using this.symm
  have hxn:xs.length<d.nodes.length:=by rw[<- h1]; simp
  have hy:d.nodes[xs.length]=y:=by simp[<- h1]
  rw[zaz,qdv hxn,qdt,zaA hxn,qaa,hy];by_cases c1:y.zaF<1
  .grind [Go.Dc.zjk]
  by_cases c2:4<y.zaF
  .grind [Go.Dc.zjk]
  obtain⟨c,hc⟩:∃ c:Nat,y.zaF=(c:Int):=⟨y.zaF.toNat,by omega⟩;have h4':∀ z∈cs ++ [c],1<=z/\z<=4:=λz hz=>by
   rcases qbf.1 hz with hz | hz
   .exact h4 z hz
   rw[qaD.1 hz]; omega
  have hb:zac (cs ++ [c])<=65536:=zqX h4' (by simp; omega);have ih:=zsI hn n (xs ++ [y]) ys (cs ++ [c]) (by rw[<- h1]; simp) (by rw[qa1,h2]; simp[iL,hc]) h4' (by simp at h3; omega);have hcx:((xs.length:Nat):Int)=((cs.length:Nat):Int):=by rw[hxl]
  rw[qdw c1,qdu,qdw c2,qaa,qdu,qaC,qaS,hcx,zd7,qaa,hc,zgY,qaa,<- qaL,<- ztQ,zar (by omega),zaf (by omega)];rw[show(xs ++ [y]).length=cs.length+1 by simp[hxl],show cs ++ [c]++ List.replicate ys.length 0=cs ++ c :: List.replicate ys.length 0 by simp]at ih;exact ih
theorem zkN{p:List Nat->Prop}:∀ {rows:List (List Int)},(∀ r∈rows,∃ zs:List Nat,r=iL zs/\p zs)->∃ zss:List (List Nat),rows=zss.map iL/\∀ zs∈zss,p zs
 | [],_=>⟨[],rfl,λ_ h=>nomatch h⟩
 | r :: rows,h=>by
  obtain⟨zs,e,h1⟩:=h r qai;obtain⟨zss,e2,h2⟩:=zkN (rows:=rows) λr hr=>h r (qag _ hr)
  refine⟨zs :: zss,by rw[e,e2]; rfl,λz hz=>?_⟩<;> grind
variable{g c:Nat}{sets order:List Int}
theorem zzs{cs ps:List Nat}{nodes:List S_api_Node}{x:S_api_Node}(hg2:g<=60)(hc:x.zaF=(c:Int))(hps:x.parents=iL ps)(hp:Pl cs.length ps)(hl:ps.length<=8)(hcs:∀ p∈ps,1<=cs.getD p 0)(hm:zac (ps.map λp=>cs.getD p 0)<=65536)(hrl:x.rows.length<=1000)(hrr:∀ r∈x.rows,r.length<=1000):
  zaV ⟨⟨(g:Int),nodes⟩,iL cs,sets,order⟩ x=some false\/zaV ⟨⟨(g:Int),nodes⟩,iL cs,sets,order⟩ x=some true/\∃ rows,x.rows=rows.map iL/\RowsOk g c (zac (ps.map λp=>cs.getD p 0)) rows:=by
 unfold zaV;have e:=zjL (x:=x) (nodes:=⟨(g:Int),nodes⟩) (sets:=sets) (order:=order) hps hp hl hcs (ps.length+2) 0 1 (qar _) (by simpa using hm) (by omega);rw[show((0:Nat):Int)=0 from rfl,show((1:Nat):Int)=1 from rfl,qa4,qa6]at e;rw[hps,zai,zap,e,qaa];by_cases c1:x.rows.length=zac (ps.map λp=>cs.getD p 0)
 .rw[show(((x.rows.length:Nat):Int)==((zac (ps.map λp=>cs.getD p 0):Nat):Int))=true by rw[c1]; simp,qdt];unfold ze5;rw[qaa];have hs:zeT x.rows=some ():=by
   unfold zeT;rw[if_pos (by omega)]
  rw[hs,qaa];have hz:∀ y:Int×List Int,y∈zro x.rows->y.2∈x.rows:=by
   intro y hy;unfold zro at hy;obtain⟨q,hq,rfl⟩:=qaB.1 hy;have:=List.mem_zipIdx' hq;rw[this.2]; exact qam _
  rcases zlv (g:=g) (c:=c) (nw:=⟨⟨(g:Int),nodes⟩,iL cs,sets,order⟩) (x:=x) rfl hg2 hc (zro x.rows) (λy hy=>hrr _ (hz y hy))with⟨g1,g2⟩| ⟨g1,g2⟩
  .rw[g2,qaa];refine .inr ⟨rfl,?_⟩;obtain⟨rows,e1,e2⟩:=zkN (p:=λzs=>zs.length=c/\zs.sum=g) (rows:=x.rows) λr hr=>by
    obtain⟨i,hi,rfl⟩:=qbD.1 hr;obtain⟨zs,h1,h2,h3⟩:=g1 ((i:Int),x.rows[i]) (qaB.2 ⟨(x.rows[i],i),List.mk_mem_zipIdx_iff_getElem?.2 (qac hi),rfl⟩);exact⟨zs,h1,h2,h3⟩
   exact⟨rows,e1,by rw[<- c1,e1,qak],e2⟩
  rw[g2,qaa];exact .inl rfl
 rw[show(((x.rows.length:Nat):Int)==((zac (ps.map λp=>cs.getD p 0):Nat):Int))=false by rw[qdy]; omega,qdu];exact .inl rfl
structure NdOk (g:Nat) (cs:List Nat) (z:NN):Prop where
 inc:z.ps.Pairwise (· < ·)
 lt:∀ p∈z.ps,p<cs.length
 rows:RowsOk g z.c (zac (z.ps.map λp=>cs.getD p 0)) z.rows
theorem PsV.zFl{m v:Nat}{ps:List Int}(h:PsV m v (-1) ps):∃ qs:List Nat,ps=iL qs/\qs.Pairwise (· < ·)/\(∀ q∈qs,q<m)/\∀ q∈qs,q≠v:=by
 obtain⟨h1,h2⟩:=PsV.iff.1 h;obtain⟨qs,e,g1,_,g3⟩:=h1.zFl (by omega)
 grind [Go.Dc.iL]
structure BndX (k:Nat) (x:S_api_Node):Prop where
 par:x.parents.length<=k
 rows:x.rows.length<=k
 row:∀ r∈x.rows,r.length<=k
structure BndK (k:Nat) (d:S_api_Net):Prop where
 nodes:d.nodes.length<=k
 node:∀ x∈d.nodes,BndX k x
variable{k:Nat}
theorem BndX.mono{m:Nat}{x:S_api_Node}(h:BndX k x)(hk:k<=m):BndX m x:=⟨qaq h.par hk,qaq h.rows hk,λr hr=>qaq (h.row r hr) hk⟩
theorem BndK.mono{k m:Nat}{d:S_api_Net}(h:BndK k d)(hk:k<=m):BndK m d:=⟨qaq h.nodes hk,λx hx=>(h.node x hx).mono hk⟩
abbrev Bnd(d:S_api_Net):Prop:=BndK 1000 d
theorem zrN{g:Nat}{cs:List Nat}{d:S_api_Net}(hg:d.grain=(g:Int))(hg2:g<=60)(hb:Bnd d)(hn:d.nodes.length<=8)(hcs:d.nodes.map (·.zaF)=iL cs)(hc:∀ c∈cs,1<=c/\c<=4):∀(n:Nat) (zs:List NN) (ys:List S_api_Node),zs.map nd ++ ys=d.nodes ->
  (∀ z∈zs,NdOk g cs z)->ys.length<n ->
  zb5 d (iL cs) n (zs.length:Int) (iL (zs.map (λx=>zbs x.ps)++ List.replicate ys.length 0))=some (.ret (zjk,50))\/
  ∃ ns:List NN,d.nodes=ns.map nd/\(∀ z∈ns,NdOk g cs z)/\zb5 d (iL cs) n (zs.length:Int) (iL (zs.map (λx=>zbs x.ps)++ List.replicate ys.length 0))=some (.go (iL (zau ns)))
 | 0,_,_,_,_,h=>absurd h (qaj _)
 | n+1,zs,[],h1,h2,h3=>by
  grind [zb5,zau]
 | n+1,zs,y :: ys,h1,h2,h3=>by
  unfold zb5;have hxn:zs.length<d.nodes.length:=by rw[<- h1]; simp
  have hy:d.nodes[zs.length]=y:=by simp[<- h1]
  have hym:y∈d.nodes:=by rw[<- h1]; simp
  have hcl:cs.length=d.nodes.length:=by have:=congrArg List.length hcs; simpa [zai]using this.symm
  have hyc:y.zaF=((cs[zs.length]'(by omega):Nat):Int):=by
   have:(d.nodes.map (·.zaF))[zs.length]'(by simpa using hxn)=(iL cs)[zs.length]'(by rw[zai]; omega):=by simp only[hcs]
   rw[List.getElem_map,hy,zuL (by omega)]at this;exact this
  obtain⟨c,hcc⟩:∃ c,cs[zs.length]'(by omega)=c:=⟨_,rfl⟩;rw[hcc]at hyc;rw[zaz,qdv hxn,qdt,zaA hxn,qaa,hy,qaC,qaS,zap];have e3:=zrz (v:=zs.length) (ns:=d) (x:=y) (xs:=zs.map λx=>zbs x.ps) (ys:=List.replicate ys.length 0) hn (by simp) (hb.node y hym).par (y.parents.length+2) 0 0 (-1) (by omega) (qar _) (by decide) (by omega);rw[show((0:Nat):Int)=0 from rfl,qa4]at e3;rcases e3 with⟨g1,qs,g2,g3⟩| ⟨g1,g2⟩
  .rw[g3,qaa];simp only[];rw[show(qs.foldl (λm p=>m ||| 2 ^ p) 0)=zbs qs from rfl];obtain⟨qs',e,k1,k2,k3⟩:=g1.zFl;have:qs'=qs:=zpm (by rw[<- e,<- g2]);subst this;have hps:∀ p∈qs',p<cs.length:=λp hp=>by rw[hcl]; exact k2 p hp
   have hq4:∀ p∈qs',1<=cs.getD p 0/\cs.getD p 0<=4:=λp hp=>by
    have h6:=hps p hp;rw[show cs.getD p 0=cs[p] by simp[h6]];exact hc _ (qam h6)
   have hql:qs'.length<=8:=by have:=zhq k1 k2; omega
   obtain⟨G,ds⟩:=d;simp only at hg hn hcs hb hxn hy hym hcl h1 ⊢;subst hg;rcases zzs (g:=g) (c:=c) (cs:=cs) (ps:=qs') (nodes:=ds) (sets:=iL (zs.map (λx=>zbs x.ps)++ zbs qs' :: List.replicate ys.length 0)) (order:=[]) (x:=y) hg2 hyc g2 hps hql (λp hp=>(hq4 p hp).1)
    (zqX (λz hz=>by obtain⟨p,hp,rfl⟩:=qaB.1 hz; exact hq4 p hp) (by simpa using hql)) (hb.node y hym).rows (hb.node y hym).row with e4 | ⟨e4,rows,r1,r2⟩
   .rw[e4,qaa,qdu];exact .inl rfl
   have hnd:nd ⟨c,qs',rows⟩=y:=by
    cases y;simp only at hyc g2 r1;simp only[nd,hyc,g2,r1]
   have ih:=zrN (d:=⟨(g:Int),ds⟩) rfl hg2 hb hn hcs hc n (zs ++ [⟨c,qs',rows⟩]) ys (by rw[<- h1,qa1,<- hnd]; simp) (λz hz=>by
    rcases qbf.1 hz with hz | hz
    .exact h2 z hz
    rw[qaD.1 hz]; exact⟨k1,hps,r2⟩) (by simp at h3; omega)
   rw[e4,qaa,qdt,zaf (by omega)];rw[show(zs ++ [(⟨c,qs',rows⟩:NN)]).length=zs.length+1 by simp,show(zs ++ [(⟨c,qs',rows⟩:NN)]).map (λx=>zbs x.ps)++ List.replicate ys.length 0=zs.map (λx=>zbs x.ps)++ zbs qs' :: List.replicate ys.length 0 by simp]at ih;exact ih
  rw[g2,qaa];exact .inl rfl
theorem zlR{ms os:List Nat}{mask C:Nat}(hn:ms.length<=8)(hm:∀ m∈ms,m<18446744073709551616)(hk:mask<18446744073709551616)(hC:os.length+1<=C):∀(n i:Nat),i<=ms.length->(∀ u,u<i->¬ ziQ ms mask u)->ms.length - i<n ->
  ((∀ u,u<ms.length->¬ ziQ ms mask u)/\zbG (iL ms) (mask:Int) C n (i:Int) (iL os)=some (.go ()))\/
  ∃ v,First ms mask v/\zbG (iL ms) (mask:Int) C n (i:Int) (iL os)=some (.brk (((mask ||| 2 ^ v:Nat):Int),iL (os ++ [v])))
 | 0,_,_,_,h=>absurd h (qaj _)
 | n+1,i,h1,h2,h3=>by
  by_cases hi:i<ms.length
  .obtain⟨b,hb,e,_⟩:=zox hm hk hi (by omega) (iL os);cases b with
   | true=>
    have hf:First ms mask i:=⟨hi,hb.1 rfl,h2⟩;exact .inr ⟨i,hf,zkT hn hm hk hC hf (n+1) i (qap _) (by omega)⟩
   | false=>
    have hno:¬ ziQ ms mask i:=λh=>by have:=hb.2 h; cases this
    have ih:=zlR hn hm hk hC n (i+1) hi (λu hu=>by
     by_cases hui:u=i
     .simp_all
     exact h2 u (by omega)) (by omega)
    grind [zbG,zai,zaW,zaf]
  grind [zbG,zai]
theorem zls{ms:List Nat}(hn:ms.length<=8)(hm:∀ m∈ms,m<18446744073709551616):∀(n:Nat) (os:List Nat),zd5 ms os->os.length<=ms.length->ms.length - os.length<n ->
  zbS (iL ms) ms.length n ((zbs os:Nat):Int) (iL os)=some (.ret ([],false))\/
  ∃ os',zd5 ms os'/\os'.length=ms.length/\zbS (iL ms) ms.length n ((zbs os:Nat):Int) (iL os)=some (.go (iL os'))
 | 0,_,_,_,h=>absurd h (qaj _)
 | n+1,os,h1,h2,h3=>by
  unfold zbS;rw[zai,zai,zaz];by_cases hl:os.length<ms.length
  .have hk:zbs os<18446744073709551616:=Go.Dc.zfX λx hx=>by
    have:=h1.lt x hx;omega
   rw[qdv hl,qdt,zap];rcases zlR (os:=os) (C:=ms.length) hn hm hk (by omega) (ms.length+2) 0 (qar _) (λu hu=>absurd hu (qaj _)) (by omega)with⟨g1,g2⟩| ⟨v,g1,g2⟩
   .simp_all
   rw[show((0:Nat):Int)=0 from rfl]at g2;rw[g2,qaa];simp only[];rw[<- zr1];exact zls hn hm n (os ++ [v]) (h1.app g1) (by simp; omega) (by simp; omega)
  grind
theorem zxW{ms:List Nat}(hn:ms.length<=8)(hm:∀ m∈ms,m<18446744073709551616):
  zcy (iL ms)=some ([],false)\/∃ os,zd5 ms os/\os.length=ms.length/\zcy (iL ms)=some (iL os,true):=by
 unfold zcy;rw[zai];have hcap:zzG 8 ((ms.length:Nat):Int)=some ms.length:=by
  grind [zzG,zaj]
 rw[hcap,qaa,show(((ms.length:Nat):Int) - ((([]:List Int).length:Nat):Int)+2).toNat=ms.length+2 by simp; omega];have e:=zls hn hm (ms.length+2) [] (λk v hk=>by simp at hk) (qar _) (by simp)
 grind [zbs,iL]
variable{d:S_api_Net}
theorem zCK(hb:Bnd d):zdu d=some (zjk,50)\/∃ g ns,d=zbZ g ns/\RightN g ns:=by
 unfold zdu;by_cases c1:d.grain<1
 .grind [Go.Dc.zjk]
 by_cases c2:60<d.grain
 .grind [Go.Dc.zjk]
 by_cases c3:(d.nodes.length:Int)<1
 .grind [Go.Dc.zjk]
 by_cases c4:8<(d.nodes.length:Int)
 .grind [Go.Dc.zjk]
 rw[qdw c1,qdu,qdw c2,qdu,qdw c3,qdu,qdw c4,qaa,qdu];have hn:d.nodes.length<=8:=by omega
 have hz:List.replicate d.nodes.length (0:Int)=iL (List.replicate d.nodes.length 0):=by simp[iL]
 rw[zdH (by omega),qaa,zap,hz];have e1:=zsI hn (d.nodes.length+2) [] d.nodes [] rfl rfl (λ_ h=>nomatch h) (by omega);simp only[qaP,qaU]at e1;rw[show((0:Nat):Int)=0 from rfl,show((zac []:Nat):Int)=1 from rfl]at e1;rcases e1 with e1 | ⟨cs,h1,h2,e1⟩
 .simp_all
 rw[e1,qaa];simp only[];by_cases c5:(1024:Int)<((zac cs:Nat):Int)
 .grind [Go.Dc.zjk]
 rw[qdw c5,qdu];obtain⟨g,hg⟩:∃ g:Nat,d.grain=(g:Int):=⟨d.grain.toNat,by omega⟩;have e2:=zrN hg (by omega) hb hn h1 h2 (d.nodes.length+2) [] d.nodes rfl (λ_ h=>nomatch h) (by omega);simp only[qc2,qaP,qaU]at e2;rw[show((0:Nat):Int)=0 from rfl]at e2;rcases e2 with e2 | ⟨ns,h3,h4,e2⟩
 .simp_all
 rw[e2,qaa];simp only[];have hnl:ns.length=d.nodes.length:=by rw[h3,qak]
 have hcs:ns.map (·.c)=cs:=by
  apply zpm;rw[<- h1,h3];simp[iL,nd,qbu]
 have hml:(zau ns).length=ns.length:=by simp[zau]
 have hlt:∀ x∈ns,∀ p∈x.ps,p<ns.length:=λx hx p hp=>by
  have:=(h4 x hx).lt p hp;rw[<- hcs,qak]at this;exact this
 have hmm:∀ m∈zau ns,m<18446744073709551616:=by
  intro m hm;obtain⟨x,hx,rfl⟩:=qaB.1 hm;refine Go.Dc.zfX λp hp=>?_
  have:=hlt x hx p hp;omega
 rcases zxW (ms:=zau ns) (by omega) hmm with e3 | ⟨os,k1,k2,e3⟩
 .rw[e3,qaa]; simp only[]; rw[qdu]; exact .inl rfl
 refine .inr ⟨g,ns,?_,?_⟩
 .obtain⟨G,ds⟩:=d;simp only at hg h3;rw[hg,h3]; rfl
 refine⟨by omega,by omega,by omega,by omega,λx hx=>h2 _ (by rw[<- hcs]; exact qaB.2 ⟨x,hx,rfl⟩),by rw[hcs]; omega,λx hx=>(h4 x hx).inc,hlt,λx hx=>by rw[hcs]; exact(h4 x hx).rows,?_⟩;refine⟨λv=>os.idxOf v,λv=>?_,λv x hv p hp=>?_⟩
 .have:=List.idxOf_le_length (a:=v) (l:=os); simp only; omega
 have hvl:=(qab.1 hv).1;refine k1.zF2 k2 v p (by omega) ?_;rw[show(zau ns).getD v 0=zbs x.ps by simp[zau,qal,hv],zcm];exact qdv hp
theorem BndX.fit{x:S_api_Node}(h:BndX 1000 x):FitN x:=⟨by have:=h.par; simp only[zaj]; omega,by have:=h.rows; simp only[zaj]; omega,λr hr=>by have:=h.row r hr; simp only[zaj]; omega⟩
theorem BndK.set{g:Int}{y:S_api_Node}(h:BndK k d)(hy:BndX k y):BndK k ⟨g,d.nodes.set t y⟩:=
 ⟨by simpa using h.nodes,λx hx=>by
  grind [Go.Dc.BndK]⟩
theorem zBn{n:Nat}:∀ {r:List Int} (i k:Nat) (hi:k+1<=r.length) (h3:k+1 - i<n) (hl:r.length<=1000),i<=k+1->∃ r2,swL n (i:Int) (k:Int) r=some r2/\r2.length=r.length:=by
 induction n with
 | zero=>intro r i k hi h3; exact absurd h3 (qaj _)
 | succ n ih=>
  intro r i k hi h3 hl h4;unfold swL;rw[zaz];by_cases hik:i<k
  .rw[qdv hik,qdt,zaA (by omega),qaa,zaA (by omega),qaa,zeV (by omega),qaa,zeV (by simp; omega),qaa,zaf (by omega),
    show w64 ((k:Int) - 1)=((k - 1:Nat):Int) by rw[zed (by omega) (by omega)]; omega]
   obtain⟨r2,e,h5⟩:=ih (r:=(r.set i (r[k]'(by omega))).set k (r[i]'(by omega))) (i+1) (k - 1) (by simp; omega) (by omega) (by simpa using hl) (by omega);exact⟨r2,e,by simpa using h5⟩
  rw[qdw hik,qdu];exact⟨r,rfl,rfl⟩
theorem zFe{r:List Int}(hl:r.length<=1000):∃ r2,swL (r.length+2) 0 (w64 ((r.length:Int) - 1)) r=some r2/\r2.length=r.length:=by
 by_cases h0:r.length=0
 .have:r=[]:=qbm h0;subst this;exact⟨[],rfl,rfl⟩
 rw[show w64 ((r.length:Int) - 1)=((r.length - 1:Nat):Int) by rw[zed (by omega) (by omega)]; omega];exact zBn (n:=r.length+2) 0 (r.length - 1) (by omega) (by omega) hl (by omega)
variable{b:S_haruspexref05_Bend}
theorem zfs{K:Nat}{n:S_api_Net}{x:S_api_Node}(hb:BndK K n)(hx:BndX K x):∀ k,(k<=4\/k=10\/k=11)->∃ r,zk4 b n x t k=some r/\BndK (K+1) r:=by
 have hb':=hb.mono (m:=K+1) (by omega);have hx':=hx.mono (m:=K+1) (by omega);rintro k (hk | rfl | rfl)
 .match k,hk with
  | 0,_=>grind [Go.Dc.zk4,Go.Dc.BndK]
  | 1,_=>grind [Go.Dc.zk4,Go.Dc.BndK,Go.Dc.BndX]
  | 2,_=>grind [Go.Dc.zk4,Go.Dc.BndK,Go.Dc.BndX]
  | 3,_=>grind [Go.Dc.zk4,Go.Dc.BndK,Go.Dc.BndX]
  | 4,_=>grind [Go.Dc.zk4,Go.Dc.BndK,Go.Dc.BndX]
 .grind [Go.Dc.zk4,Go.Dc.BndK,Go.Dc.BndX]
 grind [Go.Dc.zk4,Go.Dc.BndK]
variable{w:Nat}
theorem BndX.zH3{K:Nat}{c:Int}{x:S_api_Node}{y:List Int}(hx:BndX (K+1) x)(hy:y.length<=K+1):BndX (K+1) ⟨c,x.parents,x.rows.set w y⟩:=
 ⟨hx.par,by simpa using hx.rows,λr hr=>by
  grind [Go.Dc.BndX]⟩
theorem zyA{K:Nat}{n:S_api_Net}{x:S_api_Node}{row:List Int}(hb:BndK K n)(hx:BndX K x)(hr:row.length<=K)(hK:K<=200):∀ k,k<12->∃ r,zov b n x t w row k=some r/\BndK (K+1) r:=by
 have hb':=hb.mono (m:=K+1) (by omega);have hx':=hx.mono (m:=K+1) (by omega);intro k hk
 match k,hk with
 | 0,_=>exact zfs (b:=b) (t:=t) hb hx 0 (by omega)
 | 1,_=>exact zfs (b:=b) (t:=t) hb hx 1 (by omega)
 | 2,_=>exact zfs (b:=b) (t:=t) hb hx 2 (by omega)
 | 3,_=>exact zfs (b:=b) (t:=t) hb hx 3 (by omega)
 | 4,_=>exact zfs (b:=b) (t:=t) hb hx 4 (by omega)
 | 5,_=>grind [Go.Dc.zov,Go.Dc.BndK,Go.Dc.BndX]
 | 6,_=>
  grind [Go.Dc.zov,Go.Dc.BndK,Go.Dc.BndX]
 | 7,_=>exact⟨_,rfl,hb'.set (hx'.zH3 (by simp; omega))⟩
 | 8,_=>
  grind [Go.Dc.zov,Go.Dc.BndK,Go.Dc.BndX]
 | 9,_=>
  grind [zFe,Go.Dc.zov,Go.Dc.BndK,Go.Dc.BndX]
 | 10,_=>exact zfs (b:=b) (t:=t) hb hx 10 (by omega)
 | 11,_=>exact zfs (b:=b) (t:=t) hb hx 11 (by omega)
theorem zte{K:Nat}{n:S_api_Net}(h1:0<=b.what/\b.what<=255)(h2:0<=b.at_/\b.at_<=255)(h3:0<=b.row/\b.row<=255)(hb:BndK K n)(hK:K<=200:=by omega):∃ r,zo5 b n=some r/\BndK (K+1) r:=by
 unfold zo5;rw[if_pos ⟨h1,h2,h3,by have:=hb.nodes; simp only[zaj]; omega,λx hx=>((hb.node x hx).mono (by omega)).fit⟩];have hk:=qbk b.what.toNat (show 12 > 0 by decide);generalize b.what.toNat % 12=k at hk ⊢;unfold zBV;split
 .exact⟨_,rfl,hb.mono (by omega)⟩
 rename_i x hx;have hxm:=hb.node x (qaA hx);split
 .cases hc:decide (5<=k) && decide (k<=9)with
  | true=>exact⟨_,rfl,hb.mono (by omega)⟩
  | false=>
   rw[qdu];refine zfs hb hxm k ?_<;>grind
 rename_i row hrow;exact zyA hb hxm (hxm.row row (qaA hrow)) hK k hk
variable{ns:List NN}
theorem NetOk.bnd{num:List Nat}(h:NetOk num g ns):BndK 100 (zbZ g ns):=by
 refine⟨by have:=h.n2; simp[zbZ]; omega,λy hy=>?_⟩;obtain⟨x,hx,rfl⟩:=qaB.1 hy;obtain⟨v,hv,rfl⟩:=qbD.1 hx;obtain⟨j,hj,hjv⟩:=qbD.1 (h.perm.all v hv);have hn:=h.node j v ns[v] (by rw[qac hj,hjv]) (qac hv);have h3:=hn.par.len;have hc:=h.zaF ns[v] hx;have hm:zac (ns[v].ps.map λp=>(ns.map (·.c)).getD p 0)<=64:=by
  refine qaq (zib (m:=4) (by omega) λz hz=>?_) ?_
  .grind [Go.Dc.NetOk]
  rw[qak];exact qaq (qbs (by decide) h3) (by decide)
 refine⟨by simp[nd,zai]; omega,by show(ns[v].rows.map iL).length<=100; rw[qak,hn.rows.len]; omega,λr hr=>?_⟩;obtain⟨zs,hz,rfl⟩:=qaB.1 (show r∈ns[v].rows.map iL from hr);rw[zai,(hn.rows.row zs hz).1]; omega
def upS(ms:List Nat)(s v:Nat):Nat:=if s.testBit v then s ||| ms.getD v 0 else s
def upR(ms:List Nat)(s:Nat):Nat:=(List.range ms.length).foldl (upS ms) s
def EOk(ms:List Nat):Prop:=∀ v p,(ms.getD v 0).testBit p=true->v<ms.length/\p<ms.length
theorem Sub.zGX:Sub a a:=λ_ h=>h
theorem Sub.tr{b:Nat}(h1:Sub a b)(h2:Sub b c):Sub a c:=λi h=>h2 i (h1 i h)
theorem Sub.zHn{b:Nat}(h1:Sub a b)(h2:Sub b a):a=b:=by
 apply qcC;intro i;exact qb6.2 ⟨h1 i,h2 i⟩
theorem zu8(ms:List Nat)(s v:Nat):Sub s (upS ms s v):=by
 intro i hi;unfold upS;split
 .rw[qcN,hi,Bool.true_or]
 exact hi
theorem zmC{f:Nat->Nat->Nat}(h:∀ s v,Sub s (f s v)):∀(vs:List Nat) (s:Nat),Sub s (vs.foldl f s)
 | [],s=>Sub.zGX
 | v :: vs,s=>(h s v).tr (zmC h vs (f s v))
theorem zrk{f:Nat->Nat->Nat}(h:∀ s v,Sub s (f s v)):∀(vs:List Nat) (s:Nat),vs.foldl f s=s->∀ v∈vs,f s v=s
 | [],_,_,_,hv=>nomatch hv
 | v :: vs,s,he,u,hu=>by
  rw[qcR]at he;have h1:f s v=s:=Sub.zHn (by have:=zmC h vs (f s v); rw[he]at this; exact this) (h s v);rw[h1]at he;rcases qav.1 hu with rfl | hu
  .exact h1
  exact zrk h vs s he u hu
theorem znb{f:Nat->Nat->Nat}{P:Nat->Prop}(h:∀ s v,P s->P (f s v)):∀(vs:List Nat) (s:Nat),P s->P (vs.foldl f s)
 | [],_,h0=>h0
 | v :: vs,s,h0=>znb h vs _ (h s v h0)
theorem zm3{f:Nat->Nat}{P:Nat->Prop}(h:∀ s,P s->P (f s))(s:Nat)(h0:P s):∀ k,P (iter f s k)
 | 0=>h0
 | k+1=>h _ (zm3 h s h0 k)
theorem zsA{f:Nat->Nat}(h:∀ s,Sub s (f s))(s:Nat):∀ k,Sub s (iter f s k)
 | 0=>Sub.zGX
 | k+1=>(zsA h s k).tr (h _)
theorem zDt{ms:List Nat}(he:EOk ms){s:Nat}(hs:∀ x,s.testBit x=true->x<ms.length)(i:Nat):(iter (upR ms) s ms.length).testBit i=true↔∃ v,s.testBit v=true/\Reach ms v i:=by
 have hsub:∀ s,Sub s (upR ms s):=λs=>zmC (zu8 ms) _ s
 have hin:∀ s,(∀ x,s.testBit x=true->x<ms.length)->∀ x,(upR ms s).testBit x=true->x<ms.length:=λs h=>znb (P:=λs=>∀ x,s.testBit x=true->x<ms.length) (λs v h x hx=>by
  unfold upS at hx;split at hx
  .rw[qcN]at hx;rcases Bool.or_eq_true_iff.1 hx with hx | hx
   .exact h x hx
   exact(he v x hx).2
  exact h x hx) _ s h
 have hfix:upR ms (iter (upR ms) s ms.length)=iter (upR ms) s ms.length:=by
  rcases zi1 (n:=ms.length) (upR ms) hsub hin ms.length s hs with h | h
  .exact h
  refine Sub.zHn (λx hx=>?_) (hsub _);exact zCi h x (hin _ (zm3 (P:=λs=>∀ x,s.testBit x=true->x<ms.length) hin s hs _) x hx)
 have hclo:∀ v,(iter (upR ms) s ms.length).testBit v=true->Sub (ms.getD v 0) (iter (upR ms) s ms.length):=by
  intro v hv p hp;have h1:=zrk (zu8 ms) _ _ hfix v (qbd.2 (he v p hp).1);unfold upS at h1;rw[if_pos hv]at h1;rw[<- h1,qcN,hp,qdp]
 constructor
 .intro hi;refine zm3 (f:=upR ms) (P:=λt=>∀ i,t.testBit i=true->∃ v,s.testBit v=true/\Reach ms v i) (λt ht=>?_) s (λi hi=>⟨i,hi,.refl i⟩) ms.length i hi;refine znb (P:=λt=>∀ i,t.testBit i=true->∃ v,s.testBit v=true/\Reach ms v i) (λt v ht i hi=>?_) _ t ht;unfold upS at hi;split at hi
  .rename_i hv;rw[qcN]at hi;rcases Bool.or_eq_true_iff.1 hi with hi | hi
   .exact ht i hi
   obtain⟨u,h1,h2⟩:=ht v hv;exact⟨u,h1,h2.tr (.step hi (.refl i))⟩
  exact ht i hi
 rintro⟨v,h1,h2⟩;exact zys h2 (zsA hsub s _ v h1) hclo
variable{v:Nat}
theorem zBZ(h:v<64):IntKind.u64.wrap (v:Int)=(v:Int):=zbH (by omega)
theorem zvE(ha:a<18446744073709551616)(hv:v<64):zes (a:Int) (v:Int)=some (a.testBit v):=by
 obtain⟨q,h1,h2⟩:=zFw ha hv;unfold zes;rw[zBZ hv,h1,qaa,h2];cases a.testBit v<;>rfl
theorem zDG{ms:List Nat}(hm:∀ m∈ms,m<18446744073709551616){s:Nat}(hs:s<18446744073709551616):upS ms s v<18446744073709551616:=by
 unfold upS;split
 .exact qbZ (n:=64) hs (zqm hm v)
 exact hs
theorem zDp{ms:List Nat}(hn:ms.length<=60)(hm:∀ m∈ms,m<18446744073709551616):∀(k n v s:Nat),v+k=ms.length->s<18446744073709551616->k<n ->
  zfd (iL ms) n (s:Int) (v:Int)=some (((List.range' v k).foldl (upS ms) s:Nat):Int)/\(List.range' v k).foldl (upS ms) s<18446744073709551616
 | k,0,_,_,_,_,h=>absurd h (qaj _)
 | 0,n+1,v,s,h1,hs,_=>by
  refine⟨?_,hs⟩;unfold zfd;rw[zai,zaz,qdw (by omega),qdu];rfl
 | k+1,n+1,v,s,h1,hs,h3=>by
  have hv:v<ms.length:=by omega
  obtain⟨g1,g2⟩:=zDp hn hm k n (v+1) (upS ms s v) (by omega) (zDG hm hs) (by omega);refine⟨?_,g2⟩;unfold zfd;rw[zai,zaz,qdv hv,qdt,zvE hs (by omega),qaa,zaf (by omega),qbW,qcR];cases hb:s.testBit v with
  | true=>
   rw[qdt,zzV hv,qaa,orU hs (zqm hm v),qaa,<- g1];unfold upS;rw[if_pos hb]
  | false=>
   rw[qdu,qaa,<- g1];unfold upS;rw[if_neg (by rw[hb]; decide)]
theorem zs1(f:Nat->Nat)(s k:Nat):iter f s (k+1)=iter f (f s) k:=by
 induction k with
 | zero=>rfl
 | succ k ih=>show f (iter f s (k+1))=f (iter f (f s) k); rw[ih]
theorem zEz{ms:List Nat}(hn:ms.length<=60)(hm:∀ m∈ms,m<18446744073709551616):∀(k n v s:Nat),v+k=ms.length->s<18446744073709551616->k<n ->
  zfg (iL ms) n (s:Int) (v:Int)=some ((iter (upR ms) s k:Nat):Int)/\iter (upR ms) s k<18446744073709551616
 | k,0,_,_,_,_,h=>absurd h (qaj _)
 | 0,n+1,v,s,h1,hs,_=>by
  refine⟨?_,hs⟩;unfold zfg;rw[zai,zaz,qdw (by omega),qdu];rfl
 | k+1,n+1,v,s,h1,hs,h3=>by
  have hv:v<ms.length:=by omega
  obtain⟨e1,e2⟩:=zDp hn hm ms.length (ms.length+2) 0 s (by omega) hs (by omega);rw[<- qcV]at e1 e2;obtain⟨g1,g2⟩:=zEz hn hm k n (v+1) (upR ms s) (by omega) e2 (by omega);rw[zs1];refine⟨?_,g2⟩;unfold zfg;rw[show((0:Nat):Int)=0 from rfl]at e1;rw[zai,zaz,qdv hv,qdt,zap,e1,qaa,zaf (by omega)];exact g1
theorem zFQ{ms:List Nat}{s:Nat}(hn:ms.length<=60)(hm:∀ m∈ms,m<18446744073709551616)(hs:s<18446744073709551616):
  zhH (iL ms) (s:Int)=some ((iter (upR ms) s ms.length:Nat):Int)/\iter (upR ms) s ms.length<18446744073709551616:=by
 obtain⟨e1,e2⟩:=zEz hn hm ms.length (ms.length+2) 0 s (by omega) hs (by omega);refine⟨?_,e2⟩;rw[show((0:Nat):Int)=0 from rfl]at e1;unfold zhH;rw[zai,zap,e1,qaa]
def zqq(ms:List Nat)(v:Nat):Prop:=∀ p,(ms.getD v 0).testBit p=true->¬ Reach ms p v
theorem zEE{ms:List Nat}(hn:ms.length<=60)(hm:∀ m∈ms,m<18446744073709551616)(he:EOk ms):∀(n v:Nat),v<=ms.length->ms.length - v<n ->
  ((∀ u,v<=u->u<ms.length->zqq ms u)/\zcf (iL ms) n (v:Int)=some (.go ()))\/((∃ u,u<ms.length/\¬ zqq ms u)/\zcf (iL ms) n (v:Int)=some (.ret false))
 | 0,_,_,h=>absurd h (qaj _)
 | n+1,v,h1,h3=>by
  unfold zcf;rw[zai,zaz];by_cases hv:v<ms.length
  .obtain⟨e1,e2⟩:=zFQ hn hm (zqm hm v);have hb:=zDt he (s:=ms.getD v 0) (λx hx=>(he v x hx).2) v;rw[qdv hv,qdt,zzV hv,qaa,e1,qaa,zvE e2 (by omega),qaa];cases hc:(iter (upR ms) (ms.getD v 0) ms.length).testBit v with
   | true=>
    obtain⟨p,h6,h7⟩:=hb.1 hc;exact .inr ⟨⟨v,hv,λh=>h p h6 h7⟩,rfl⟩
   | false=>
    have hno:zqq ms v:=λp h6 h7=>by
     have:=hb.2 ⟨p,h6,h7⟩;rw[hc]at this;cases this
    rw[qdu,zaf (by omega)];rcases zEE hn hm he n (v+1) hv (by omega)with⟨g1,g2⟩| ⟨g1,g2⟩
    .refine .inl ⟨λu hu hul=>?_,g2⟩;by_cases huv:u=v
     .rw[huv]; exact hno
     exact g1 u (by omega) hul
    exact .inr ⟨g1,g2⟩
  rw[qdw hv,qdu];exact .inl ⟨λu h6 h7=>absurd h7 (by omega),rfl⟩
theorem zEH{ms:List Nat}(hn:ms.length<=60)(hm:∀ m∈ms,m<18446744073709551616)(he:EOk ms):
  ((∀ u,u<ms.length->zqq ms u)/\zdt (iL ms)=some true)\/((∃ u,u<ms.length/\¬ zqq ms u)/\zdt (iL ms)=some false):=by
 unfold zdt;rw[zai,zap];rcases zEE hn hm he (ms.length+2) 0 (qar _) (by omega)with⟨g1,g2⟩| ⟨g1,g2⟩
 .rw[show((0:Nat):Int)=0 from rfl]at g2;rw[g2,qaa];exact .inl ⟨λu=>g1 u (qar _),rfl⟩
 rw[show((0:Nat):Int)=0 from rfl]at g2;rw[g2,qaa];exact .inr ⟨g1,rfl⟩
structure RN where
 c:Nat
 ps:List Nat
 rows:List (List Int)
def rd(x:RN):S_api_Node:=⟨x.c,iL x.ps,x.rows⟩
def P1(m:Int)(y:S_api_Node):Prop:=(1<=y.zaF/\y.zaF<=4)/\znM m (-1) y.parents
theorem zsr{d:S_api_Net}(hb:Bnd d)(hn:d.nodes.length<=8):∀(n a:Nat) (xs ys:List S_api_Node),xs ++ ys=d.nodes->a<=4 ^ xs.length->ys.length<n ->
  ((∀ y∈ys,P1 (d.nodes.length:Int) y)/\zcB d n (a:Int) (xs.length:Int)=some (.go ((a * zac (ys.map (·.zaF.toNat)):Nat):Int)))\/
  ((¬ ∀ y∈ys,P1 (d.nodes.length:Int) y)/\zcB d n (a:Int) (xs.length:Int)=some (.ret false))
 | 0,_,_,_,_,_,h=>absurd h (qaj _)
 | n+1,a,xs,[],h1,h2,h3=>by
  grind [zcB,zac]
 | n+1,a,xs,y :: ys,h1,h2,h3=>by
  unfold zcB;have hxn:xs.length<d.nodes.length:=by rw[<- h1]; simp
  have hy:d.nodes[xs.length]=y:=by simp[<- h1]
  have hym:y∈d.nodes:=by rw[<- h1]; simp
  rw[zaz,qdv hxn,qdt,zaA hxn,qaa,hy];by_cases c1:y.zaF<1
  .rw[qdv c1,qdt,qaa,qdt];exact .inr ⟨λh=>by have:=(h y qai).1.1; omega,rfl⟩
  by_cases c2:4<y.zaF
  .rw[qdw c1,qdu,qdv c2,qdt,qaa,qdt];exact .inr ⟨λh=>by have:=(h y qai).1.2; omega,rfl⟩
  obtain⟨b,e,hbb⟩:=zwl (m:=(d.nodes.length:Int)) (hb.node y hym).par;rw[qdw c1,qdu,qdw c2,qdu,e,qaa,qaa];cases b with
  | false=>
   exact .inr ⟨λh=>absurd (hbb.2 (h y qai).2) (by decide),rfl⟩
  | true=>
   obtain⟨c,hc⟩:∃ c:Nat,y.zaF=(c:Int):=⟨y.zaF.toNat,by omega⟩;have hpw:4 ^ (xs.length+1)<=4 ^ 8:=qbs (by decide) (by omega);have hac:a * c<=4 ^ (xs.length+1):=by rw[qdg]; exact qa2 h2 (by omega)
   rw[qbl,qdu,hc,<- qaL,zar (by omega),zaf (by omega)];have ih:=zsr hb hn n (a * c) (xs ++ [y]) ys (by rw[<- h1]; simp) (by simpa using hac) (by simp at h3; omega);rw[show(xs ++ [y]).length=xs.length+1 by simp]at ih;rcases ih with⟨g1,g2⟩| ⟨g1,g2⟩
   .refine .inl ⟨λz hz=>?_,?_⟩
    .rcases qav.1 hz with rfl | hz
     .exact⟨⟨by omega,by omega⟩,hbb.1 rfl⟩
     exact g1 z hz
    rw[g2,qaz,hc,qay];show _=some (Out.go (((a * (c * zac (ys.map (·.zaF.toNat))):Nat):Int)));rw[qaZ]
   exact .inr ⟨λh=>g1 λz hz=>h z (qag _ hz),g2⟩
theorem zEv{m:Nat}:∀ {ys:List S_api_Node},(∀ y∈ys,P1 (m:Int) y)->∃ rs:List RN,ys=rs.map rd/\∀ x∈rs,(1<=x.c/\x.c<=4)/\x.ps.Pairwise (· < ·)/\∀ p∈x.ps,p<m
 | [],_=>⟨[],rfl,λ_ h=>nomatch h⟩
 | y :: ys,h=>by
  obtain⟨rs,e,h1⟩:=zEv (m:=m) (ys:=ys) λy hy=>h y (qag _ hy)
  obtain⟨⟨h2,h3⟩,h4⟩:=h y qai;obtain⟨qs,e2,g1,_,g3⟩:=h4.zFl (by omega);refine⟨⟨y.zaF.toNat,qs,y.rows⟩:: rs,?_,λx hx=>?_⟩
  .rw[qaz,<- e];congr 1
   obtain⟨c,p,r⟩:=y
   grind [rd]
  grind
variable{rs:List RN}
theorem zg7(h:v<rs.length):zaE (rs.map rd) (v:Int)=some (rd rs[v]):=by
 grind [zaA]
theorem zrv{g:Int}{rs:List RN}{v:Nat}(hv:v<rs.length)(hp:∀ p∈rs[v].ps,p<8)(hl:rs[v].ps.length<=8):∀(n i m:Nat),i<=rs[v].ps.length->m<18446744073709551616->rs[v].ps.length - i<n ->
  zbY ⟨g,rs.map rd⟩ (v:Int) n (m:Int) (i:Int)=some (((rs[v].ps.drop i).foldl (λm p=>m ||| 2 ^ p) m:Nat):Int)
 | 0,_,_,_,_,h=>absurd h (qaj _)
 | n+1,i,m,h1,h2,h3=>by
  unfold zbY;simp only[];rw[zg7 hv,qaa,show(rd rs[v]).parents=iL rs[v].ps from rfl,zai,zaz];by_cases hi:i<rs[v].ps.length
  .have h8:=hp _ (qam hi);have hpw:2 ^ rs[v].ps[i]<18446744073709551616:=qbh (n:=64) (by decide) (by omega)
   rw[qdv hi,qdt,zaW hi,qaa,zBZ (by omega),zt7 (by omega),qaa,orU h2 hpw,zaf (by omega),zrv hv hp hl n (i+1) _ hi (qbZ (n:=64) h2 hpw) (by omega),
    qas hi,qcR]
  rw[qdw hi,qdu,qaW (by omega)];rfl
def zef(rs:List RN):List Nat:=rs.map λx=>zbs x.ps
theorem zr8{g:Int}{rs:List RN}(hn:rs.length<=8)(hp:∀ x∈rs,x.ps.length<=8/\∀ p∈x.ps,p<8):∀(n i:Nat),i<=rs.length->rs.length - i<n ->
  zbW ⟨g,rs.map rd⟩ n (i:Int) (iL (zef (rs.take i)))=some (iL (zef rs))
 | 0,_,_,h=>absurd h (qaj _)
 | n+1,i,h1,h3=>by
  unfold zbW;simp only[];rw[qak,zaz];by_cases hi:i<rs.length
  .obtain⟨k1,k2⟩:=hp _ (qam hi);have e:=zrv (g:=g) hi k2 k1 (rs[i].ps.length+2) 0 0 (qar _) (by decide) (by omega);rw[show((0:Nat):Int)=0 from rfl,qa4]at e
   rw[qdv hi,qdt,zg7 hi,qbG,show(rd rs[i]).parents.length=rs[i].ps.length by simp[rd,zai],zap,e,qaa,
    show(rs[i].ps.foldl (λm p=>m ||| 2 ^ p) 0)=zbs rs[i].ps from rfl,zb8 (by rw[zai]; simp[zef]; omega),qaa,zaf (by omega)]
   have ih:=zr8 (g:=g) hn hp n (i+1) hi (by omega);rw[<- ih];congr 1
   rw[List.take_add_one,qac hi];simp only[zef,iL,Option.toList_some,qa1,qaz,qc2]
  grind
theorem zsp{g:Int}{rs:List RN}(hn:rs.length<=8)(hp:∀ x∈rs,x.ps.length<=8/\∀ p∈x.ps,p<8):zbL ⟨g,rs.map rd⟩=some (iL (zef rs)):=by
 have e:=zr8 (g:=g) hn hp (rs.length+2) 0 (qar _) (by omega)
 grind [iL,zef,zbL]
theorem zIj{g:Int}(hl:rs.length<=8)(hv:v<rs.length)(hp:Pl rs.length rs[v].ps)(h8:rs[v].ps.length<=8):
  zba ⟨g,rs.map rd⟩ (v:Int)=some (iL (rs[v].ps.map λp=>(rs.map (·.c)).getD p 0)):=by
 unfold zba;rw[zg7 hv,qaa,zrA (by simpa using hl),qaa];have hc:(rs.map rd).map (·.zaF)=iL (rs.map (·.c)):=by simp[iL,rd,qbu]
 simp only[];rw[hc,show(rd rs[v]).parents=iL rs[v].ps from rfl,zDW (by rw[zai,qak]; exact hp) h8,qaa];congr 1
 simp only[zvI];simp only[iL,qcQ,qbu]
theorem zq5{g:Nat}{d:S_api_Net}{r:List Int}(hg:d.grain=(g:Int))(hg2:g<=60)(hl:r.length<=1000):∀(n i a:Nat),i<=r.length->a<=60 * i->r.length - i<n ->
  (∃ zs:List Nat,r.drop i=iL zs/\(∀ z∈zs,z<=g)/\zc4 r d n (a:Int) (i:Int)=some (.go ((a+zs.sum:Nat):Int)))\/
  ((¬ ∃ zs:List Nat,r.drop i=iL zs/\∀ z∈zs,z<=g)/\zc4 r d n (a:Int) (i:Int)=some (.ret false))
 | 0,_,_,_,_,h=>absurd h (qaj _)
 | n+1,i,a,h1,h2,h3=>by
  unfold zc4;by_cases hi:i<r.length
  .have hd:r.drop i=r[i]:: r.drop (i+1):=qas hi;obtain⟨p,hpp⟩:∃ p,r[i]=p:=⟨_,rfl⟩;rw[zaz,qdv hi,qdt,zaA hi,qaa,hd,hpp,hg];by_cases c1:p<0
   .refine .inr ⟨λ⟨zs,e,_⟩=>?_,by rw[qdv c1,qdt,qaa,qdt]⟩;cases zs with
    | nil=>cases e
    | cons z zs=>simp only[iL,qaz,qch]at e; omega
   by_cases c2:(g:Int)<p
   .refine .inr ⟨λ⟨zs,e,hs⟩=>?_,by rw[qdw c1,qdu,qdv c2,qaa,qdt]⟩;cases zs with
    | nil=>cases e
    | cons z zs=>simp only[iL,qaz,qch]at e; have:=hs z qai; omega
   obtain⟨q,rfl⟩:∃ q:Nat,p=(q:Int):=⟨p.toNat,by omega⟩;rw[qdw c1,qdu,qdw c2,qaa,qdu,qaa,<- qby,zar (by omega),zaf (by omega)];rcases zq5 hg hg2 hl n (i+1) (a+q) hi (by omega) (by omega)with⟨zs,e,hs,g3⟩| ⟨g1,g2⟩
   .refine .inl ⟨q :: zs,by rw[e]; rfl,λz hz=>?_,by rw[g3,qcw,qbQ]⟩;rcases qav.1 hz with rfl | hz
    .omega
    exact hs z hz
   refine .inr ⟨λ⟨zs,e,hs⟩=>g1 ?_,g2⟩;cases zs with
   | nil=>cases e
   | cons z zs=>
    simp only[iL,qaz,qch]at e;exact⟨zs,e.2,λz hz=>hs z (qag _ hz)⟩
  rw[zaz,qdw hi,qdu,qaW (by omega)];exact .inl ⟨[],rfl,λ_ h=>(nomatch h),by simp⟩
theorem zum:∀ {zs:List Nat} {z:Nat},z∈zs->z<=zs.sum
 | x :: xs,z,h=>by
  rw[qcw];rcases qav.1 h with rfl | h
  .omega
  have:=zum h; omega
theorem zsx{g c:Nat}{d:S_api_Net}{x:S_api_Node}(hg:d.grain=(g:Int))(hg2:g<=60)(hc:x.zaF=(c:Int))(hb:BndX 1000 x):∀(n i:Nat),i<=x.rows.length->x.rows.length - i<n ->
  ((∀ r∈x.rows.drop i,zjJ g c r)/\zc8 x d n (i:Int)=some (.go ()))\/((¬ ∀ r∈x.rows.drop i,zjJ g c r)/\zc8 x d n (i:Int)=some (.ret false))
 | 0,_,_,h=>absurd h (qaj _)
 | n+1,i,h1,h3=>by
  unfold zc8;by_cases hi:i<x.rows.length
  .have hd:x.rows.drop i=x.rows[i]:: x.rows.drop (i+1):=qas hi;have hrl:=hb.row _ (qam hi);have hrows:=hb.rows;obtain⟨r,hr⟩:∃ r,x.rows[i]=r:=⟨_,rfl⟩;rw[hr]at hrl hd;rw[zaz,qdv hi,qdt,zaA hi,qaa,hr,hc,hd];by_cases c1:r.length=c
   .rw[show(((r.length:Nat):Int)==(c:Int))=true by rw[c1]; simp,qdt,zap];have e4:=zq5 (g:=g) (d:=d) hg hg2 hrl (r.length+2) 0 0 (qar _) (by omega) (by omega);rw[show((0:Nat):Int)=0 from rfl,qa4]at e4;rcases e4 with⟨zs,e,hs,e4⟩| ⟨g1,e4⟩
    .rw[e4,qaa];simp only[];rw[qaR,hg];by_cases c2:zs.sum=g
     .have hok:zjJ g c r:=⟨zs,e,by rw[<- c1,e,zai],c2⟩;rw[show(((zs.sum:Nat):Int)==(g:Int))=true by rw[c2]; simp,qdt,zaf (by omega)];rcases zsx hg hg2 hc hb n (i+1) hi (by omega)with⟨g1,g2⟩| ⟨g1,g2⟩
      .refine .inl ⟨λz hz=>?_,g2⟩;rcases qav.1 hz with rfl | hz
       .exact hok
       exact g1 z hz
      exact .inr ⟨λh=>g1 λz hz=>h z (qag _ hz),g2⟩
     rw[show(((zs.sum:Nat):Int)==(g:Int))=false by rw[qdy]; omega,qdu];refine .inr ⟨λh=>?_,rfl⟩;obtain⟨zs',e',_,h7⟩:=h r qai;exact c2 (by rw[zpm (e.symm.trans e'),h7])
    rw[e4,qaa];refine .inr ⟨λh=>g1 ?_,rfl⟩;obtain⟨zs',e',_,h7⟩:=h r qai;exact⟨zs',e',λz hz=>by rw[<- h7]; exact zum hz⟩
   rw[show(((r.length:Nat):Int)==(c:Int))=false by rw[qdy]; omega,qdu];refine .inr ⟨λh=>?_,rfl⟩;obtain⟨zs',e',h6,_⟩:=h r qai;exact c1 (by rw[e',zai,h6])
  grind
def P2(g:Nat)(cs:List Nat)(x:RN):Prop:=x.rows.length=zac (x.ps.map λp=>cs.getD p 0)/\∀ r∈x.rows,zjJ g x.c r
theorem zsj{g:Nat}{rs:List RN}(hg2:g<=60)(hn:rs.length<=8)(hb:∀ x∈rs,BndX 1000 (rd x))(hr:∀ x∈rs,(1<=x.c/\x.c<=4)/\x.ps.Pairwise (· < ·)/\∀ p∈x.ps,p<rs.length):∀(n i:Nat),i<=rs.length->rs.length - i<n ->
  ((∀ x∈rs.drop i,P2 g (rs.map (·.c)) x)/\zda ⟨(g:Int),rs.map rd⟩ n (i:Int)=some (.go ()))\/((¬ ∀ x∈rs.drop i,P2 g (rs.map (·.c)) x)/\zda ⟨(g:Int),rs.map rd⟩ n (i:Int)=some (.ret false))
 | 0,_,_,h=>absurd h (qaj _)
 | n+1,i,h1,h3=>by
  unfold zda;simp only[];rw[qak,zaz];by_cases hi:i<rs.length
  .have hd:rs.drop i=rs[i]:: rs.drop (i+1):=qas hi;obtain⟨⟨k1,k2⟩,k3,k4⟩:=hr _ (qam hi);have hbx:=hb _ (qam hi);have hpl:rs[i].ps.length<=8:=by have:=zhq k3 k4; omega
   have hq4:∀ z∈rs[i].ps.map (λp=>(rs.map (·.c)).getD p 0),1<=z/\z<=4:=λz hz=>by
    obtain⟨p,hp,rfl⟩:=qaB.1 hz;have h6:=k4 p hp;rw[show(rs.map (·.c)).getD p 0=rs[p].c by simp[h6]];exact(hr _ (qam h6)).1
   rw[qdv hi,qdt,zg7 hi,qaa,zIj hn hi k4 hpl,qaa,zuU (λz hz=>(hq4 z hz).1) (by simpa using hpl) (zqX hq4 (by simpa using hpl)),qaa,hd,
    show(rd rs[i]).rows=rs[i].rows from rfl]
   by_cases c1:rs[i].rows.length=zac (rs[i].ps.map λp=>(rs.map (·.c)).getD p 0)
   .rw[show(((rs[i].rows.length:Nat):Int)==((zac (rs[i].ps.map λp=>(rs.map (·.c)).getD p 0):Nat):Int))=true by rw[c1]; simp,qdt,zap];have e3:=zsx (g:=g) (c:=rs[i].c) (d:=⟨(g:Int),rs.map rd⟩) (x:=rd rs[i]) rfl hg2 rfl hbx ((rd rs[i]).rows.length+2) 0 (qar _) (by omega);rw[show((0:Nat):Int)=0 from rfl,qa4,show(rd rs[i]).rows=rs[i].rows from rfl]at e3;rcases e3 with⟨g1,e3⟩| ⟨g1,e3⟩
    .rw[e3,qaa];simp only[];rw[zaf (by omega)];rcases zsj hg2 hn hb hr n (i+1) hi (by omega)with⟨g3,g2⟩| ⟨g3,g2⟩
     .refine .inl ⟨λz hz=>?_,g2⟩;rcases qav.1 hz with rfl | hz
      .exact⟨c1,g1⟩
      exact g3 z hz
     exact .inr ⟨λh=>g3 λz hz=>h z (qag _ hz),g2⟩
    rw[e3,qaa];exact .inr ⟨λh=>g1 (h _ qai).2,rfl⟩
   rw[show(((rs[i].rows.length:Nat):Int)==((zac (rs[i].ps.map λp=>(rs.map (·.c)).getD p 0):Nat):Int))=false by rw[qdy]; omega,qdu];exact .inr ⟨λh=>c1 (h _ qai).1,rfl⟩
  rw[qdw hi,qdu,qaW (by omega)];exact .inl ⟨λ_ h=>(nomatch h),rfl⟩
def zAH(d:S_api_Net):Prop:=∃ g ns,d=zbZ g ns/\RightN g ns
theorem zEQ{g:Nat}{cs:List Nat}:∀ {rs:List RN},(∀ x∈rs,P2 g cs x)->∃ ns:List NN,rs.map rd=ns.map nd/\rs.map (·.c)=ns.map (·.c)/\rs.map (·.ps)=ns.map (·.ps)/\∀ z∈ns,RowsOk g z.c (zac (z.ps.map λp=>cs.getD p 0)) z.rows
 | [],_=>⟨[],rfl,rfl,rfl,λ_ h=>nomatch h⟩
 | x :: rs,h=>by
  obtain⟨ns,e1,e2,e3,h1⟩:=zEQ (g:=g) (cs:=cs) (rs:=rs) λy hy=>h y (qag _ hy)
  obtain⟨h2,h3⟩:=h x qai;obtain⟨zss,e4,h4⟩:=zkN (p:=λzs=>zs.length=x.c/\zs.sum=g) (rows:=x.rows) λr hr=>by
   grind [Go.Dc.zjJ]
  refine⟨⟨x.c,x.ps,zss⟩:: ns,?_,by simp only[qaz,e2],by simp only[qaz,e3],λz hz=>?_⟩
  .grind [rd,nd]
  grind [Go.Dc.RowsOk]
theorem zwK{pss:List (List Nat)}(hl:pss.length=n)(hp:∀ ps∈pss,∀ p∈ps,p<n):EOk (pss.map zbs):=by
 grind [zcm,Go.Dc.EOk]
theorem zxP{ms:List Nat}(hn:ms.length<=8)(hm:∀ m∈ms,m<18446744073709551616)(he:EOk ms)(hno:∀ u,u<ms.length->zqq ms u):∃ os,zd5 ms os/\os.length=ms.length:=by
 have step:∀ k,k<=ms.length->∃ os,zd5 ms os/\os.length=k:=by
  intro k;induction k with
  | zero=>exact λ_=>⟨[],λk v hk=>by simp at hk,rfl⟩
  | succ k ih=>
   intro hk;obtain⟨os,h1,h2⟩:=ih (by omega);have:∃ v,v<ms.length/\ziQ ms (zbs os) v:=qbj λhn=>by
    obtain⟨v,p,h3,h4,h5⟩:=zqj (ms:=ms) (os:=os) (λv p h=>(he v p h).2) (by omega) h1.nod λv hv hr=>hn ⟨v,hv,hr⟩
    exact hno v h3 p h4 h5
   obtain⟨v,hv,hr⟩:=this;obtain⟨u,hu⟩:=zrJ v hv hr;exact⟨os ++ [u],h1.app hu,by simp[h2]⟩
 simp_all
theorem RightN.zGG(h:RightN g ns):∀ u,u<(zau ns).length->zqq (zau ns) u:=by
 obtain⟨rk,hg,_⟩:=h.gok;intro u hu p hp hr;have h1:=ztk (rk:=rk) (λv p h=>(hg.down v p h).2) hr;have h2:=(hg.down u p hp).2;omega
theorem RightN.p1{ns:List NN}(h:RightN g ns):∀ y∈ns.map nd,P1 (ns.length:Int) y:=by
 grind [nd,znM.of,P1,Go.Dc.RightN]
theorem zvz(hb:Bnd d):(zAH d/\zc1 d=some true)\/(¬ zAH d/\zc1 d=some false):=by
 unfold zc1;by_cases c1:d.grain<1
 .rw[qdv c1,qdt,qaa,qdt];exact .inr ⟨λ⟨g,ns,e,h⟩=>by subst e; have:=h.g1; simp only[zbZ]at c1; omega,rfl⟩
 by_cases c2:60<d.grain
 .rw[qdw c1,qdu,qdv c2,qdt,qaa,qdt];exact .inr ⟨λ⟨g,ns,e,h⟩=>by subst e; have:=h.g2; simp only[zbZ]at c2; omega,rfl⟩
 by_cases c3:(d.nodes.length:Int)<1
 .rw[qdw c1,qdu,qdw c2,qdu,qdv c3,qdt,qaa,qdt];exact .inr ⟨λ⟨g,ns,e,h⟩=>by subst e; have:=h.n1; simp only[zbZ,qak]at c3; omega,rfl⟩
 by_cases c4:8<(d.nodes.length:Int)
 .rw[qdw c1,qdu,qdw c2,qdu,qdw c3,qdu,qdv c4,qaa,qdt];exact .inr ⟨λ⟨g,ns,e,h⟩=>by subst e; have:=h.n2; simp only[zbZ,qak]at c4; omega,rfl⟩
 rw[qdw c1,qdu,qdw c2,qdu,qdw c3,qdu,qdw c4,qaa,qdu,zap];have hn:d.nodes.length<=8:=by omega
 have e1:=zsr hb hn (d.nodes.length+2) 1 [] d.nodes rfl (by decide) (by omega);rw[qaU,show((0:Nat):Int)=0 from rfl,show((1:Nat):Int)=1 from rfl,qa6]at e1;rcases e1 with⟨g1,e1⟩| ⟨g1,e1⟩
 case inr=>
  rw[e1,qaa];exact .inr ⟨λ⟨g,ns,e,h⟩=>g1 (by subst e; have:=h.p1; simpa [zbZ]using this),rfl⟩
 rw[e1,qaa];simp only[];obtain⟨rs,e2,h2⟩:=zEv g1;obtain⟨g,hg⟩:∃ g:Nat,d.grain=(g:Int):=⟨d.grain.toNat,by omega⟩;obtain⟨G,ds⟩:=d;simp only at hg e2;subst hg e2;simp only[qak]at *;have hcs:(rs.map rd).map (λy:S_api_Node=>y.zaF.toNat)=rs.map (·.c):=by simp[rd,qbu]
 rw[hcs];by_cases c5:(1024:Int)<((zac (rs.map (·.c)):Nat):Int)
 .rw[qdv c5,qdt,qaa,qdt];refine .inr ⟨λ⟨g',ns,e,h⟩=>?_,rfl⟩;have:rs.map (·.c)=ns.map (·.c):=by
   have h6:=congrArg (λd:S_api_Net=>d.nodes.map λy=>y.zaF.toNat) e;simpa [zbZ,rd,nd,qbu]using h6
  have h7:=h.prod;rw[<- this]at h7;omega
 have hp8:∀ x∈rs,x.ps.length<=8/\∀ p∈x.ps,p<8:=λx hx=>by
  obtain⟨_,k3,k4⟩:=h2 x hx;exact⟨by have:=zhq k3 k4; omega,λp hp=>by have:=k4 p hp; omega⟩
 have hmm:∀ m∈zef rs,m<18446744073709551616:=by
  intro m hm;obtain⟨x,hx,rfl⟩:=qaB.1 hm;exact Go.Dc.zfX λp hp=>by have:=(hp8 x hx).2 p hp; omega
 have hml:(zef rs).length=rs.length:=by simp[zef]
 have hmp:zef rs=(rs.map (·.ps)).map zbs:=by simp[zef,qbu]
 have heo:EOk (zef rs):=by
  rw[hmp];refine zwK (n:=rs.length) (by simp) λps hps p hp=>?_
  obtain⟨x,hx,rfl⟩:=qaB.1 hps;exact(h2 x hx).2.2 p hp
 rw[qdw c5,qdu,zsp (by omega) hp8,qaa];rcases zEH (ms:=zef rs) (by omega) hmm heo with⟨g3,e3⟩| ⟨g3,e3⟩
 case inr=>
  rw[e3,qaa,qaa,qcd,qdt];refine .inr ⟨λ⟨g',ns,e,h⟩=>?_,rfl⟩;have:zef rs=zau ns:=by
   have h6:=congrArg (λd:S_api_Net=>d.nodes.map λy=>zbs (y.parents.map Int.toNat)) e;simpa [zbZ,rd,nd,qbu,zef,zau,iL]using h6
  rw[this]at g3;obtain⟨u,hu,hno⟩:=g3;exact hno (h.zGG u hu)
 rw[e3,qaa,qaa,qbl,qdu];have e4:=zsj (g:=g) (rs:=rs) (by omega) (by omega) (λx hx=>hb.node _ (qaB.2 ⟨x,hx,rfl⟩)) h2 (rs.length+2) 0 (qar _) (by omega);rw[show((0:Nat):Int)=0 from rfl,qa4]at e4;rcases e4 with⟨g4,e4⟩| ⟨g4,e4⟩
 .rw[e4,qaa];refine .inl ⟨?_,rfl⟩;obtain⟨ns,k1,k2,k3,k4⟩:=zEQ g4;have hnl:ns.length=rs.length:=by have:=congrArg List.length k1; simpa using this.symm
  have hmo:zef rs=zau ns:=by rw[hmp,k3]; simp[zau,qbu]
  obtain⟨os,o1,o2⟩:=zxP (ms:=zef rs) (by omega) hmm heo g3;have hz:∀ z∈ns,∃ x∈rs,x.c=z.c/\x.ps=z.ps:=by
   intro z hz;obtain⟨i,hi,rfl⟩:=qbD.1 hz;refine⟨rs[i]'(by omega),qam _,?_,?_⟩
   .have:=congrArg (λl:List Nat=>l[i]?) k2;simpa [hi,show i<rs.length by omega]using this
   have:=congrArg (λl:List (List Nat)=>l[i]?) k3;simpa [hi,show i<rs.length by omega]using this
  refine⟨g,ns,by rw[k1]; rfl,by omega,by omega,by omega,by omega,λz hzm=>?_,by rw[<- k2]; omega,λz hzm=>?_,λz hzm=>?_,λz hzm=>by rw[<- k2]; exact k4 z hzm,?_⟩
  .obtain⟨x,hx,q1,q2⟩:=hz z hzm;rw[<- q1]; exact(h2 x hx).1
  .obtain⟨x,hx,q1,q2⟩:=hz z hzm;rw[<- q2]; exact(h2 x hx).2.1
  .obtain⟨x,hx,q1,q2⟩:=hz z hzm;rw[<- q2,hnl]; exact(h2 x hx).2.2
  refine⟨λv=>os.idxOf v,λv=>?_,λv x hv p hp=>?_⟩
  .have:=List.idxOf_le_length (a:=v) (l:=os); simp only; omega
  have hvl:=(qab.1 hv).1;refine o1.zF2 o2 v p (by omega) ?_;rw[hmo,show(zau ns).getD v 0=zbs x.ps by simp[zau,qal,hv],zcm];exact qdv hp
 rw[e4,qaa];refine .inr ⟨λ⟨g',ns,e,h⟩=>g4 λx hx=>?_,rfl⟩;have hgg:(g:Int)=(g':Int):=congrArg S_api_Net.grain e;have hgg:g=g':=by omega
 subst hgg;have hn':rs.map rd=ns.map nd:=congrArg S_api_Net.nodes e;have hcc:rs.map (·.c)=ns.map (·.c):=by
  have h6:=congrArg (λl:List S_api_Node=>l.map λy=>y.zaF.toNat) hn';simpa [rd,nd,qbu]using h6
 obtain⟨i,hi,rfl⟩:=qbD.1 hx;have hil:i<ns.length:=by have:=congrArg List.length hn'; simp at this; omega
 have h6:=congrArg (λl:List S_api_Node=>l[i]?) hn';simp only[qbg,qac hi,qac hil,qba,qaf]at h6;have q1:rs[i].c=ns[i].c:=by have:=congrArg S_api_Node.zaF h6; simp only[rd,nd]at this; omega
 have q2:rs[i].ps=ns[i].ps:=zpm (congrArg S_api_Node.parents h6);have q3:rs[i].rows=ns[i].rows.map iL:=congrArg S_api_Node.rows h6;have hro:=h.rows _ (qam hil);refine⟨by rw[q3,qak,hro.len,q2,hcc],λr hr=>?_⟩;rw[q3]at hr;obtain⟨zs,hz,rfl⟩:=qaB.1 hr;have:=hro.row zs hz;exact⟨zs,rfl,by rw[q1]; exact this.1,this.2⟩
def zE7:List Nat->Nat->List Nat
 | [],_=>[]
 | c :: cs,w=>(w / zac cs):: zE7 cs (w % zac cs)
theorem zsZ(c:Nat)(cs:List Nat):zac (c :: cs)=c * zac cs:=rfl
theorem zvP:∀ {cs:List Nat} {w:Nat},w<zac cs->∀(i:Nat) (h:i<cs.length),(zE7 cs w).getD i 0<cs[i]
 | [],_,_,i,h=>absurd h (qaj _)
 | c :: cs,w,hw,i,h=>by
  rw[zsZ]at hw;have hp:0<zac cs:=Nat.pos_of_ne_zero λh0=>by rw[h0,Nat.mul_zero]at hw; omega
  cases i with
  | zero=>
   show w / zac cs<c;exact(qdf hp).2 hw
  | succ i=>
   show(zE7 cs (w % zac cs)).getD i 0<cs[i]'(by simpa using h);exact zvP (qbk _ hp) i (by simpa using h)
theorem zA5{b:Nat}(hb:0<b)(ha:a<9223372036854775808):zts .i64 (a:Int) (b:Int)=some ((a / b:Nat):Int):=by
 unfold zts;rw[show((b:Int)== 0)=false by rw[qdy]; omega,qdu,show((a:Int).tdiv (b:Int))=((a / b:Nat):Int)from rfl];congr 1
 have:a / b<=a:=qdo a b;exact zar (by omega)
structure CsOk (cs:List Nat):Prop where
 len:cs.length<=8
 zaF:∀ c∈cs,1<=c/\c<=4
 prod:zac cs<=1024
theorem zoj{α:Type}{xs:List α}:∃ ys:List α,zeG xs 0 (zmj (xs.length:Int) (k:Int))=some ys/\ys.length<=k/\∀ y∈ys,y∈xs:=by
 have hm:zmj (xs.length:Int) (k:Int)=((min xs.length k:Nat):Int):=by unfold zmj; split<;>omega
 refine⟨xs.take (min xs.length k),?_,by simp; omega,λy hy=>List.mem_of_mem_take hy⟩;rw[hm,show(0:Int)=((0:Nat):Int)from rfl];unfold zeG;rw[if_pos (by omega)];simp
structure BendOk (b:S_haruspexref05_Bend):Prop where
 what:0<=b.what/\b.what<=255
 at_:0<=b.at_/\b.at_<=255
 row:0<=b.row/\b.row<=255
def zHa(x:NN):RN:=⟨x.c,x.ps,x.rows.map iL⟩
theorem zAQ(g:Nat)(ns:List NN):zbZ g ns=⟨(g:Int),(ns.map zHa).map rd⟩:=by
 unfold zbZ;rw[qcQ];rfl
theorem RightN.zGx(h:RightN g ns):zbL (zbZ g ns)=some (iL (zau ns)):=by
 have hn:=h.n2;rw[zAQ,zsp (by simpa using hn) λx hx=>?_]
 .simp[zef,zau,zHa,qbu]
 obtain⟨y,hy,rfl⟩:=qaB.1 hx;exact⟨h.zGN hy,λp hp=>by have:=h.lt y hy p hp; omega⟩
theorem RightN.cs(h:RightN g ns):CsOk (ns.map (·.c)):=by
 refine⟨by have:=h.n2; simpa using this,λc hc=>?_,h.prod⟩;obtain⟨x,hx,rfl⟩:=qaB.1 hc;exact h.zaF x hx
theorem zzW{g:Nat}{ns:List NN}{e:List Int}{r1:S_net_network×Int}(hc:r1.1.zah=iL (ns.map (·.c)))(hl:e.length=ns.length)(hn:ns.length<=8):∀(n m i:Nat),i<=e.length->e.length - i<n->e.length - i<m ->
  (zbe e r1 n (i:Int)=some (.go ())/\za2 e (zbZ g ns) m (i:Int)=some (.go ()))\/
  (zbe e r1 n (i:Int)=some (.ret 2)/\za2 e (zbZ g ns) m (i:Int)=some (.ret false))
 | 0,_,_,_,h,_=>absurd h (qaj _)
 | _,0,_,_,_,h=>absurd h (qaj _)
 | n+1,m+1,i,h1,h3,h5=>by
  unfold zbe za2;rw[zaz];by_cases hi:i<e.length
  .obtain⟨x,hx⟩:∃ x,e[i]=x:=⟨_,rfl⟩;have hin:i<ns.length:=by omega
   rw[qdv hi,qdt,qdt,zaA hi,qaa,qaa,hx];by_cases c1:x < -1
   .rw[qdv c1,qdt,qdt,qaa,qaa,qdt,qdt];exact .inr ⟨rfl,rfl⟩
   have hg:zaE (iL (ns.map (·.c))) (i:Int)=some ((ns[i].c:Nat):Int):=by rw[zaW (by simpa using hin)]; simp
   rw[qdw c1,qdu,qdu,hc,hg,show zaE (zbZ g ns).nodes (i:Int)=some (nd ns[i])from zdc hin];simp only[qaa,show(nd ns[i]).zaF=((ns[i].c:Nat):Int)from rfl];by_cases c2:((ns[i].c:Nat):Int)<=x
   .rw[qdv c2,qdt,qdt];exact .inr ⟨rfl,rfl⟩
   rw[qdw c2,qdu,qdu,zaf (by omega)];exact zzW hc hl hn n m (i+1) hi (by omega) (by omega)
  rw[qdw hi,qdu,qdu];exact .inl ⟨rfl,rfl⟩
theorem zAV(h:RightN g ns)(e:List Int):∃ b:Bool,zce (zbZ g ns) e=some b/\zbm (zbZ g ns) e=some (bif b then 0 else 2):=by
 obtain⟨os,_,_,e2⟩:=zwA h;have hn:=h.n2;have hnl:(zbZ g ns).nodes.length=ns.length:=by simp[zbZ]
 unfold zce zbm;rw[e2,qaa];simp only[];rw[show((0:Int)== 0)=true from rfl,qdt,hnl];by_cases hl:e.length=ns.length
 .rw[show(((e.length:Nat):Int)==((ns.length:Nat):Int))=true by rw[hl]; simp,qdt,qdt,zap];rcases zzW (g:=g) (e:=e) (r1:=(⟨zbZ g ns,iL (ns.map (·.c)),iL (zau ns),iL os⟩,0)) rfl hl hn (e.length+2) (e.length+2) 0 (qar _) (by omega) (by omega)with⟨g1,g2⟩| ⟨g1,g2⟩
  .rw[show((0:Nat):Int)=0 from rfl]at g1 g2;rw[g1,g2,qaa,qaa];exact⟨true,rfl,rfl⟩
  rw[show((0:Nat):Int)=0 from rfl]at g1 g2;rw[g1,g2,qaa,qaa];exact⟨false,rfl,rfl⟩
 rw[show(((e.length:Nat):Int)==((ns.length:Nat):Int))=false by rw[qdy]; omega,qdu,qdu];exact⟨false,rfl,rfl⟩
theorem zH2{a:Int}:∃ q,zku .u8 a (v:Int)=some q:=zsv .u8 a
structure EvOk (cs:List Nat) (e:List Int):Prop where
 len:e.length=cs.length
 lo:∀ v,v<cs.length -> -1<=e.getD v (-1)
 hi:∀ v,v<cs.length->e.getD v (-1)<(cs.getD v 0:Nat)
structure KnOk (k:S_haruspexref05_Known):Prop where
 v:∀ x∈[k.v.a0,k.v.a1,k.v.a2,k.v.a3,k.v.a4,k.v.a5,k.v.a6,k.v.a7],0<=x/\x<=255
theorem zu0{ns:List NN}{g:Nat}{k:S_haruspexref05_Known}(hk:KnOk k)(hn:ns.length<=8)(hc:∀ x∈ns,1<=x.c):∀(n i:Nat) (acc:List Int),i<=ns.length->acc.length=i->(∀ v,v<i -> -1<=acc.getD v (-1)/\acc.getD v (-1)<((ns.map (·.c)).getD v 0:Nat))->ns.length - i<n ->
  ∃ out,zct (zbZ g ns) k n (i:Int) acc=some out/\EvOk (ns.map (·.c)) out
 | 0,_,_,_,_,_,h=>absurd h (qaj _)
 | n+1,i,acc,h1,h2,h4,h3=>by
  unfold zct;have hnl:(zbZ g ns).nodes.length=ns.length:=by simp[zbZ]
  rw[hnl,zaz];by_cases hi:i<ns.length
  .obtain⟨q,hq⟩:=zH2 (a:=k.which) (v:=i);rw[qdv hi,qdt,zBZ (by omega),hq,qaa];have key:∃ y:Int,((bif ((zkZ .u8 q 1)== 1)then((zaE [k.v.a0,k.v.a1,k.v.a2,k.v.a3,k.v.a4,k.v.a5,k.v.a6,k.v.a7] (i:Int)).bind λx5=>(zaE (zbZ g ns).nodes (i:Int)).bind λx7=>(zrc (w64 x5) x7.zaF).bind λq9=>some q9)else some (-1)):Option Int)=some y/\-1<=y/\y<((ns.map (·.c)).getD i 0:Nat):=by
    have hcx:=hc _ (qam hi);have hci:(ns.map (·.c)).getD i 0=ns[i].c:=by rw[qal,qbg,qac hi]; rfl
    rw[hci];cases(zkZ .u8 q 1)== 1 with
    | false=>exact⟨-1,rfl,by omega,by omega⟩
    | true=>
     obtain⟨x5,h5,h6⟩:∃ x,zaE [k.v.a0,k.v.a1,k.v.a2,k.v.a3,k.v.a4,k.v.a5,k.v.a6,k.v.a7] (i:Int)=some x/\0<=x/\x<=255:=⟨_,zaA (by simp; omega),hk.v _ (qam _)⟩;refine⟨(w64 x5).tmod ((ns[i].c:Nat):Int),?_,?_,?_⟩
     .rw[qdt,h5,qaa,show zaE (zbZ g ns).nodes (i:Int)=some (nd ns[i])from zdc hi,qaa,show(nd ns[i]).zaF=((ns[i].c:Nat):Int)from rfl];unfold zrc;rw[show((((ns[i].c:Nat):Int))== 0)=false by rw[qdy]; omega,qdu,qaa]
     .rw[zed (by omega) (by omega)];have:=Int.tmod_nonneg ((ns[i].c:Nat):Int) h6.1;omega
     rw[zed (by omega) (by omega)];exact Int.tmod_lt_of_pos _ (by omega)
   obtain⟨y,hy,y1,y2⟩:=key
   obtain⟨out,ho,ho2⟩:=zu0 (g:=g) (k:=k) hk hn hc n (i+1) (acc ++ [y]) hi (by simp; omega) (λv hv=>by
    rw[qal];by_cases hvi:v<i
    .rw[qat (by omega),<- qal]; exact h4 v hvi
    have:v=i:=by omega
    subst this;rw[qaT (by omega),h2,qcf]
    exact⟨y1,y2⟩) (by omega)
   refine⟨out,?_,ho2⟩;rw[hy,qaa,zb8 (by simp; omega),qaa,zaf (by omega),ho]
  have:i=ns.length:=by omega
  subst this;exact⟨acc,by rw[qdw hi,qdu],⟨by rw[h2,qak],λv hv=>(h4 v (by rwa [qak]at hv)).1,λv hv=>(h4 v (by rwa [qak]at hv)).2⟩⟩
theorem zx1{ns:List NN}{k:S_haruspexref05_Known}(hk:KnOk k)(hn:ns.length<=8)(hc:∀ x∈ns,1<=x.c):∃ out,zcT k (zbZ g ns)=some out/\EvOk (ns.map (·.c)) out:=by
 obtain⟨out,e,e2⟩:=zu0 (g:=g) (k:=k) hk hn hc (ns.length+2) 0 [] (qar _) rfl (λv hv=>absurd hv (qaj _)) (by omega);refine⟨out,?_,e2⟩;rw[show((0:Nat):Int)=0 from rfl]at e;unfold zcT;rw[show(zbZ g ns).nodes.length=ns.length by simp[zbZ],zap,e,qaa]
def lo(ps:List Nat)(v:Nat):List Nat:=ps.filter λp=>decide (p<v)
def hi(ps:List Nat)(v:Nat):List Nat:=ps.filter λp=>decide (v<p)
def fam(ps:List Nat)(v:Nat):List Nat:=lo ps v ++ v :: hi ps v
theorem zEA{ps:List Nat}{x:Nat}(h:x∈lo ps v):x<v:=of_decide_eq_true (qaO.1 h).2
theorem zCt{ps:List Nat}{x:Nat}(h:x∈hi ps v):v<x:=of_decide_eq_true (qaO.1 h).2
theorem zwG{ps:List Nat}(h:ps.Pairwise (· < ·))(hv:v ∉ ps):lo ps v ++ hi ps v=ps:=by
 refine ziM (qcW.2 ⟨qbc _ h,qbc _ h,λa ha b hb=>Nat.lt_trans (zEA ha) (zCt hb)⟩) h λx=>?_<;>grind [lo,hi]
theorem zmE{ps:List Nat}(h:ps.Pairwise (· < ·)):(fam ps v).Pairwise (· < ·):=by
 refine qcW.2 ⟨qbc _ h,qa3.2 ⟨λa ha=>zCt ha,qbc _ h⟩,λa ha b hb=>?_⟩
 grind [Go.Dc.lo,Go.Dc.hi]
variable{u:Nat}
theorem zmZ{ps:List Nat}:u∈fam ps v↔u=v\/u∈ps:=by
 grind [fam,lo,hi]
theorem zEl(x y:Int):zev x y=some (decide (x<y)):=by
 rfl
theorem zGs{xs:List Nat}{v k:Nat}(hl:xs.length<=1000)(h1:∀ i (h:i<xs.length),i<k->xs[i]<v)(h2:∀ i (h:i<xs.length),k<=i->v<=xs[i]):∀(n i j:Nat),i<=k->k<=j->j<=xs.length->j - i<n ->
  zax (iL xs) (v:Int) n (i:Int) (j:Int)=some (k:Int)
 | 0,_,_,_,_,_,h=>absurd h (qaj _)
 | n+1,i,j,a,b,c,d=>by
  unfold zax;rw[zaz];by_cases hij:i<j
  .have hm:(i+j) / 2<j:=by omega
   have hm2:i<=(i+j) / 2:=by omega
   have hx:(i+j) / 2<xs.length:=by omega
   rw[qdv hij,qdt,show((i:Int)+(j:Int))=((i+j:Nat):Int) by omega,zar (by omega),zbH (by omega),show((1:Int))=((1:Nat):Int)from rfl,zGq (by omega),qaa,qb1,Nat.pow_one,zar (by omega),zaW hx,qaa,zEl,qaa,zaz];by_cases hc:xs[(i+j) / 2]<v
   .rw[qdv hc,qdt,show((1:Nat):Int)=1 from rfl,zaf (by omega)];refine zGs hl h1 h2 n _ j ?_ b c (by omega);rcases qaY ((i+j) / 2) k with g | g
    .exact g
    exact absurd (h2 _ hx g) (by omega)
   rw[qdw hc,qdu];refine zGs hl h1 h2 n i _ a ?_ (by omega) (by omega);rcases qaY ((i+j) / 2) k with g | g
   .exact absurd (h1 _ hx g) hc
   exact g
  rw[qdw hij,qdu,show i=k by omega]
theorem zHE{ps:List Nat}(h:ps.Pairwise (· < ·))(hv:v ∉ ps)(hl:ps.length<=1000):∃ b,zaT (iL ps) (v:Int)=some ((((lo ps v).length:Nat):Int),b):=by
 have e:=zwG h hv;have hlen:(lo ps v).length<=ps.length:=qcS _ _;have g1:∀ i (h:i<ps.length),i<(lo ps v).length->ps[i]<v:=by
  grind [zEA,qam]
 have g2:∀ i (h:i<ps.length),(lo ps v).length<=i->v<=ps[i]:=by
  grind [zCt,qam]
 have k:=zGs hl g1 g2 (ps.length+2) 0 ps.length (qar _) hlen (qap _) (by omega);rw[show((0:Nat):Int)=0 from rfl]at k;unfold zaT;rw[zai,zap,k,qaa,zaz];by_cases c:(lo ps v).length<ps.length
 .rw[qdv c,qdt,zaW c,qaa,show zcd ((ps[(lo ps v).length]:Nat):Int)=some false from rfl,qaa,qdu];cases hb:(((ps[(lo ps v).length]:Nat):Int)==(v:Int))<;> simp_all
 simp_all [qdw]
theorem zF4{ps:List Nat}(h:ps.Pairwise (· < ·))(hv:v ∉ ps)(hl:ps.length<=1000):zAW 8 (iL ps) (((lo ps v).length:Nat):Int) [(v:Int)]=some (iL (fam ps v)):=by
 have e:=zwG h hv;have hlen:(lo ps v).length<=ps.length:=qcS _ _;unfold zAW;have hm:70368744177664<=zaj:=by decide
 rw[if_pos ⟨⟨by omega,by rw[zai]; omega⟩,by simp,by rw[zai]; simp only[qaC,qaU]; omega⟩,qay];have ep:iL ps=iL (lo ps v)++ iL (hi ps v):=by rw[<- zws,e]
 have t1:(iL ps).take (lo ps v).length=iL (lo ps v):=by
  rw[ep,qcJ (by rw[zai]; exact qap _),qaM (by rw[zai]; exact qap _)]
 have t2:(iL ps).drop (lo ps v).length=iL (hi ps v):=by
  rw[ep,List.drop_append_of_le_length (by rw[zai]; exact qap _),qcn (by rw[zai]; exact qap _),qaP]
 rw[t1,t2];unfold fam;rw[zws,show iL (v :: hi ps v)=(v:Int):: iL (hi ps v)from rfl,qaF];rfl
def cd(cs us:List Nat):List Nat:=us.map λp=>cs.getD p 0
structure FacOk (cs:List Nat) (v:Nat) (x:NN):Prop where
 inc:x.ps.Pairwise (· < ·)
 nv:v ∉ x.ps
 lt:∀ p∈x.ps,p<cs.length
 hv:v<cs.length
 cv:cs.getD v 0=x.c
 len:x.rows.length=zac (cd cs x.ps)
 row:∀ r∈x.rows,r.length=x.c
 num:∀ r∈x.rows,∀ w∈r,w<=60
 zaF:∀ c∈cs,1<=c/\c<=4
 l8:cs.length<=8
 prod:zac cs<=1024
def ztt(cs:List Nat)(v:Nat)(x:NN):Nat:=zac (cd cs (lo x.ps v))
def zbx(cs:List Nat)(v:Nat)(x:NN):Nat:=zac (cd cs (hi x.ps v))
def zig(cs:List Nat)(v:Nat)(x:NN):Fc:=⟨fam x.ps v,cd cs (fam x.ps v),(List.range' 0 (ztt cs v x * x.c * zbx cs v x)).map (zCU (zbx cs v x) x.c x.rows)⟩
theorem zgq{cs us:List Nat}(h:∀ c∈cs,1<=c/\c<=4)(hu:∀ u∈us,u<cs.length):∀ c∈cd cs us,1<=c/\c<=4:=by
 intro c hc;obtain⟨u,h1,rfl⟩:=qaB.1 hc;have h2:=hu u h1;have:cs.getD u 0=cs[u]:=by rw[qal,qac h2]; rfl
 rw[this];exact h _ (qam h2)
theorem FacOk.flt{cs:List Nat}{v:Nat}{x:NN}(h:FacOk cs v x):∀ u∈fam x.ps v,u<cs.length:=by
 intro u hu;rcases zmZ.1 hu with rfl | hu
 .exact h.hv
 exact h.lt u hu
variable{x:NN}
theorem FacOk.fl8{cs:List Nat}(h:FacOk cs v x):(fam x.ps v).length<=8:=qaq (zhq (zmE h.inc) h.flt) h.l8
theorem zDu{ps:List Nat}(h:u∈hi ps v):u∈ps:=(qaO.1 h).1
theorem zlT(cs a b:List Nat):cd cs (a ++ b)=cd cs a ++ cd cs b:=qa1
theorem FacOk.cdf{cs:List Nat}(h:FacOk cs v x):cd cs (fam x.ps v)=cd cs (lo x.ps v)++ x.c :: cd cs (hi x.ps v):=by
 unfold fam;rw[zlT];show _ ++ cs.getD v 0 :: _=_;rw[h.cv];rfl
theorem FacOk.size{cs:List Nat}(h:FacOk cs v x):zac (cd cs (fam x.ps v))=ztt cs v x * x.c * zbx cs v x:=by
 rw[h.cdf,zfv,qaZ];rfl
theorem FacOk.zGz{cs:List Nat}(h:FacOk cs v x):x.rows.length=ztt cs v x * zbx cs v x:=by
 have e:=zwG h.inc h.nv;have e2:cd cs x.ps=cd cs (lo x.ps v)++ cd cs (hi x.ps v):=by rw[<- zlT,e]
 rw[h.len,e2,zfv];rfl
theorem zol{f:Nat->Nat}(p:Nat->Bool):∀ {us:List Nat},(∀ u∈us,1<=f u)->zac ((us.filter p).map f)<=zac (us.map f)
 | [],_=>qap _
 | u :: us,h=>by
  have h1:=h u qai;have h2:=zol p λw hw=>h w (qag u hw)
  have h3:zac ((u :: us).map f)=f u * zac (us.map f):=rfl;rw[List.filter_cons,h3];cases p u with
  | true=>
   rw[if_pos rfl];exact qcl _ h2
  | false=>
   rw[if_neg (by decide)];exact qaq h2 (qcO _ h1)
theorem zsw(cs:List Nat):(List.range cs.length).map (λp=>cs.getD p 0)=cs:=by
 refine qcr (by simp) λi h1 h2=>?_
 rw[List.getElem_map,List.getElem_range,qal,qac h2];rfl
theorem zmr{cs us:List Nat}(hc:∀ c∈cs,1<=c)(h:us.Pairwise (· < ·))(hu:∀ u∈us,u<cs.length):zac (cd cs us)<=zac cs:=by
 have e:us=(List.range cs.length).filter (λu=>decide (u∈us)):=ziM h (qbc _ qbY) λx=>by
  simp only[qaO,qbd,decide_eq_true_eq];exact⟨λhx=>⟨hu x hx,hx⟩,λhx=>hx.2⟩
 have k:=zol (f:=λp=>cs.getD p 0) (λu=>decide (u∈us)) (us:=List.range cs.length) λu hx=>by
  have h2:=qbd.1 hx;rw[qal,qac h2];exact hc _ (qam h2)
 rw[<- e,zsw]at k;exact k
theorem FacOk.le{cs:List Nat}(h:FacOk cs v x):ztt cs v x * x.c * zbx cs v x<=1024:=by
 rw[<- h.size];exact qaq (zmr (λc hc=>(h.zaF c hc).1) (zmE h.inc) h.flt) h.prod
theorem FacOk.B0{cs:List Nat}(h:FacOk cs v x):0<zbx cs v x:=zey λc hc=>(zgq h.zaF (λu hu=>h.lt u (zDu hu)) c hc).1
theorem FacOk.c1{cs:List Nat}(h:FacOk cs v x):1<=x.c/\x.c<=4:=by
 have:=zgq (us:=[v]) h.zaF (λu hu=>by rw[qaD.1 hu]; exact h.hv) (cs.getD v 0) (qaD.2 rfl);rw[h.cv]at this;exact this
def bp(k:Nat):Nat->List Nat->Nat
 | _,[]=>1
 | i,c :: r=>(bif decide (k<i)then c else 1)* bp k (i+1) r
theorem zDB{k:Nat}:∀(b:List Nat) (i:Nat),k<i->bp k i b=zac b
 | [],_,_=>rfl
 | c :: b,i,h=>by
  unfold bp;rw[qdv h,qdt,zDB b (i+1) (by omega)];rfl
theorem zz6{k c:Nat}{b:List Nat}:∀(a:List Nat) (i:Nat),a.length+i=k->bp k i (a ++ c :: b)=zac b
 | [],i,h=>by
  have h:i=k:=by simpa using h
  subst h;rw[qaP];unfold bp;rw[qdw (qcc i),qdu,qa6,zDB b (i+1) (by omega)]
 | d :: a,i,h=>by
  rw[qa8];unfold bp;rw[qdw (by simp only[qaC]at h; omega),qdu,qa6];exact zz6 a (i+1) (by simp only[qaC]at h; omega)
theorem zBP{fs cs:List Nat}{k:Nat}{b0:Bool}{p0:S_net_network}(hp:p0.zah=iL cs)(hc:∀ c∈cs,1<=c/\c<=4)(hl:fs.length<=8)(hf:∀ u∈fs,u<cs.length):∀(ws us:List Nat) (n b:Nat),us ++ ws=fs->b<=4 ^ us.length->ws.length<n ->
  za4 (iL fs) p0 ((k:Int),b0) n (us.length:Int) (b:Int) (iL (cd cs us))=some (((b * bp k us.length (cd cs ws):Nat):Int),iL (cd cs fs))
 | _,_,0,_,_,_,h=>absurd h (qaj _)
 | [],us,n+1,b,h1,h2,h3=>by
  rw[qaH]at h1;subst h1;unfold za4;rw[zai,zaz,qdw (qcc _),qdu,show cd cs []=[]from rfl,show bp k us.length []=1 from rfl,qca]
 | w :: ws,us,n+1,b,h1,h2,h3=>by
  have hul:us.length<fs.length:=by rw[<- h1]; simp
  have hw:w<cs.length:=hf w (by rw[<- h1]; simp);have hcw:=zgq (us:=[w]) hc (λu hu=>by rw[qaD.1 hu]; exact hw) (cs.getD w 0) (qaD.2 rfl);have hp8:(4:Nat) ^ us.length<=65536:=qaq (qbs (by decide) (show us.length<=8 by omega)) (by decide);have hnext:(us ++ [w])++ ws=fs:=by rw[qaF]; exact h1
  have hl1:(us ++ [w]).length=us.length+1:=by simp
  unfold za4;rw[zai,zaz,qdv hul,qdt,<- h1,zdp rfl,h1,qaa,hp,zfx hw,qaa,zb8 (by rw[zai]; unfold cd; simp only[qak,qaC,qaU]; omega),qaa];have e:iL (cd cs us)++ [((cs.getD w 0:Nat):Int)]=iL (cd cs (us ++ [w])):=by rw[zlT,zws]; rfl
  rw[e,zaf (by omega),show((us.length+1:Nat):Int)=(((us ++ [w]).length:Nat):Int) by rw[hl1]];simp only[];rw[zaz];by_cases hk:k<us.length
  .have hb:b * cs.getD w 0<=4 ^ (us.length+1):=by rw[qdg]; exact qa2 h2 hcw.2
   have hb2:b * cs.getD w 0<=65536 * 4:=qa2 (qaq h2 hp8) hcw.2;rw[qdv hk,qdt,<- qaL,zar (by omega),qaa,zBP hp hc hl hf ws (us ++ [w]) n (b * cs.getD w 0) hnext (by rw[hl1]; exact hb) (by simp only[qaC]at h3; omega)];rw[show cd cs (w :: ws)=cs.getD w 0 :: cd cs ws from rfl]
   conv=>rhs; unfold bp
   rw[qdv hk,qdt,hl1,qaZ]
  rw[qdw hk,qdu,qaa,zBP hp hc hl hf ws (us ++ [w]) n b hnext (by rw[hl1,qdg]; omega) (by simp only[qaC]at h3; omega)];rw[show cd cs (w :: ws)=cs.getD w 0 :: cd cs ws from rfl]
  conv=>rhs; unfold bp
  rw[qdw hk,qdu,hl1,qa6]
variable{i:Nat}
theorem zyC{w:List Nat}{y:Nat}(h:i<w.length):zfl (iL w) (i:Int) (y:Int)=some (iL (w.set i y)):=by
 rw[zeV (by rw[zai]; exact h)];simp[iL,qdq]
theorem zFm{A B c i:Nat}{rows:List (List Nat)}{x1:S_api_Node}(hx:x1.zaF=(c:Int)){zs:List Nat}(hz:rows.getD i []=zs)(hzl:zs.length=c)(hB:0<B)(hi:i<A * B)(hA:A * c * B<=1024)(hc4:1<=c/\c<=4):∀(n x:Nat) (w:List Nat),x<=c->Fil A B c rows (i * c+x) w->c - x<n ->
  ∃ w',Fil A B c rows (i * c+c) w'/\za3 ((i:Int),iL zs) (B:Int) x1 n (x:Int) (iL w)=some (iL w')
 | 0,_,_,_,_,h=>absurd h (qaj _)
 | n+1,x,w,h1,h2,h3=>by
  unfold za3;rw[zai,hzl,zaz];by_cases hxc:x<c
  .have hlt:=zD1 (c:=c) hi hxc;have hb1:i / B * c+x<=(i / B * c+x)* B:=qaJ _ hB;have hAB:A * B<=A * c * B:=qau B (qaJ A hc4.1);have idx:w64 ((w64 ((w64 ((w64 (((i / B:Nat):Int)* x1.zaF))+(x:Int)))* (B:Int)))+((i % B:Nat):Int))=(((i / B * c+x)* B+i % B:Nat):Int):=by
    rw[hx,<- qaL,zar (by omega),<- qby,zar (by omega),<- qaL,zar (by omega),<- qby,zar (by omega)]
   have hw:(i / B * c+x)* B+i % B<w.length:=by rw[h2.len]; exact hlt
   have hst:=h2.step hB hi hxc;rw[hz]at hst;have hget:zs.getD x 0=zs[x]'(by omega):=by rw[qal,qac (by omega)]; rfl
   rw[hget]at hst;obtain⟨w',k1,k2⟩:=zFm hx hz hzl hB hi hA hc4 n (x+1) _ hxc hst (by omega);refine⟨w',k1,?_⟩;rw[qdv hxc,qdt,zaW (by omega),qaa];simp only[];rw[zA5 hB (by omega),qaa,zkS hB,qaa,idx,zaW hw,qaa,zyC hw,qaa,zaf (by omega),k2]
  have:x=c:=by omega
  subst this;exact⟨w,h2,by rw[qdw (qcc _),qdu]⟩
def zDY:Nat->List (List Nat)->List (Int×List Int)
 | _,[]=>[]
 | i,z :: r=>((i:Int),iL z):: zDY (i+1) r
theorem zEB:∀(zs:List (List Nat)) (i:Nat),((zs.map iL).zipIdx i).map (λp=>((p.2:Int),p.1))=zDY i zs
 | [],_=>rfl
 | z :: zs,i=>by
  rw[qaz,List.zipIdx_cons,qaz,zEB zs (i+1)];rfl
theorem zD3{A B c:Nat}{rows:List (List Nat)}{x1:S_api_Node}(hx:x1.zaF=(c:Int))(hr:∀ r∈rows,r.length=c)(hl:rows.length=A * B)(hB:0<B)(hA:A * c * B<=1024)(hc4:1<=c/\c<=4):∀(ys:List (List Nat)) (i:Nat) (w:List Nat),rows.drop i=ys->i<=rows.length->Fil A B c rows (i * c+0) w ->
  ∃ w',Fil A B c rows (A * B * c+0) w'/\za1 (B:Int) x1 (zDY i ys) (iL w)=some (iL w')
 | [],i,w,h1,h2,h3=>by
  have:i=A * B:=by
   have:=congrArg List.length h1;simp only[qcq,qaU]at this;omega
  subst this;exact⟨w,h3,rfl⟩
 | z :: ys,i,w,h1,h2,h3=>by
  have hi:i<rows.length:=by
   rcases qaY i rows.length with g | g
   .exact g
   rw[qcn g]at h1; cases h1
  have e:=qas hi;rw[h1]at e;obtain⟨e1,e2⟩:=qcH e;have hz:rows.getD i []=z:=by rw[qal,qac hi,e1]; rfl
  have hzl:z.length=c:=by rw[e1]; exact hr _ (qam hi)
  obtain⟨w1,k1,k2⟩:=zFm hx hz hzl hB (by omega) hA hc4 (c+2) 0 w (qar _) h3 (by omega);obtain⟨w',g1,g2⟩:=zD3 hx hr hl hB hA hc4 ys (i+1) w1 e2.symm hi k1.next;refine⟨w',g1,?_⟩;rw[show((0:Nat):Int)=0 from rfl]at k2;show(za3 ((i:Int),iL z) (B:Int) x1 (((iL z).length:Int) - 0+2:Int).toNat 0 (iL w)).bind _=_;rw[zai,zap,hzl,k2,qaa];exact g2
theorem zEk{os:List Int}(hx:ns[v]? = some x)(h:FacOk (ns.map (·.c)) v x):zbP ⟨zbZ g ns,iL (ns.map (·.c)),sets,os⟩ (v:Int)=some (zig (ns.map (·.c)) v x).D:=by
 obtain⟨hv,ev⟩:=qab.1 hx;have hps:x.ps.length<=8:=qaq (zhq h.inc h.lt) h.l8;obtain⟨b,e1⟩:=zHE h.inc h.nv (show x.ps.length<=1000 by omega);have e2:=zF4 h.inc h.nv (show x.ps.length<=1000 by omega);have e3:=zBP (fs:=fam x.ps v) (k:=(lo x.ps v).length) (b0:=b) (p0:=⟨zbZ g ns,iL (ns.map (·.c)),sets,os⟩) rfl h.zaF h.fl8 h.flt (fam x.ps v) [] ((fam x.ps v).length+2) 1 rfl (qap _) (by omega);rw[show(([]:List Nat).length:Int)=0 from rfl,show cd (ns.map (·.c)) []=[]from rfl,show iL []=[]from rfl,show((1:Nat):Int)=1 from rfl,show([]:List Nat).length=0 from rfl,h.cdf,zz6 _ _ (by unfold cd; simp),qa6,<- h.cdf]at e3;have hrl:=h.zGz;have hmul:x.rows.length * x.c<=1024:=by
  have:=h.le;rw[hrl,Nat.mul_right_comm];exact this
 have hrl2:x.rows.length<=1024:=qaq (qaJ _ h.c1.1) hmul;obtain⟨w',k1,k2⟩:=zD3 (x1:=nd x) rfl h.row hrl h.B0 h.le h.c1 x.rows 0 _ rfl (qar _) (Fil.start _ _ _ _);have k3:=k1.all h.B0 (by have:=h.c1; omega);subst k3;unfold zbP;simp only[];rw[show zaE (zbZ g ns).nodes (v:Int)=some (nd x) by rw[<- ev]; exact zdc hv,qaa,show(nd x).parents=iL x.ps from rfl,e1,qaa,zg2 (by rw[zai]; omega),qaa];simp only[];rw[e2,qaa,zai,zap,e3,qaa];simp only[];rw[show(nd x).rows.length=x.rows.length by simp[nd],show(nd x).zaF=(x.c:Int)from rfl,<- qaL,zar (by omega),zdH (by omega),qaa,show ze5 (nd x)=some (nd x)from rfl,qaa];rw[show zeT (nd x).rows=some () by unfold zeT; rw[if_pos (by rw[show(nd x).rows.length=x.rows.length by simp[nd]]; omega)],qaa];have hz:zro (nd x).rows=zDY 0 x.rows:=zEB x.rows 0;have hrep:List.replicate (x.rows.length * x.c) (0:Int)=iL (List.replicate (ztt (ns.map (·.c)) v x * x.c * zbx (ns.map (·.c)) v x) 0):=by
  rw[zgQ,hrl,Nat.mul_right_comm]
 rw[hz,hrep];have k2':za1 ((zac (cd (ns.map (·.c)) (hi x.ps v)):Nat):Int) (nd x) (zDY 0 x.rows) (iL (List.replicate (ztt (ns.map (·.c)) v x * x.c * zbx (ns.map (·.c)) v x) 0))=_:=k2;rw[k2',qaa];rfl
theorem RightN.fac(h:RightN g ns)(hx:ns[v]? = some x):FacOk (ns.map (·.c)) v x:=by
 obtain⟨hv,ev⟩:=qab.1 hx;have hm:x∈ns:=ev ▸ qam hv;refine⟨h.inc x hm,λhp=>h.ne hx v hp rfl,by simpa using h.lt x hm,by simpa using hv,?_,(h.rows x hm).len,λr hr=>((h.rows x hm).row r hr).1,λr hr w hw=>?_,h.cs.zaF,by simpa using h.n2,h.prod⟩
 .rw[qal,qbg,hx];rfl
 have:=zum hw;have:=((h.rows x hm).row r hr).2;have:=h.g2;omega
def zhd:List Nat->List Nat->(Nat->Nat)->Nat->Nat
 | u :: us,d :: ds,F=>zhd us ds (upd F u d)
 | _,_,F=>F
theorem zse:∀ {us ds:List Nat} {F:Nat->Nat} {x:Nat},x ∉ us->zhd us ds F x=F x
 | [],_,_,_,_=>by unfold zhd; rfl
 | u :: us,[],_,_,_=>by unfold zhd; rfl
 | u :: us,d :: ds,F,x,h=>by
  unfold zhd;rw[zse λh1=>h (qag u h1),zAg λe=>h (by rw[e]; exact qai)]
theorem zpM:∀ {us ds:List Nat} {F:Nat->Nat} {x:Nat},us.Nodup->us.length=ds.length->x∈us->zhd us ds F x=at_ us ds x
 | [],_,_,_,_,_,h=>by simp at h
 | u :: us,[],_,_,_,h,_=>by simp at h
 | u :: us,d :: ds,F,x,hn,hl,h=>by
  obtain⟨n1,n2⟩:=qbb.1 hn;unfold zhd;rw[zgL];by_cases e:u=x
  .subst e;rw[zse n1,zyT,qdz,qdt]
  rw[qdA e,qdu];exact zpM n2 (by simpa using hl) ((qav.1 h).resolve_left λe2=>e e2.symm)
variable{j:Nat}
theorem zA7{cs:List Nat}(h:FacOk cs v x)(hj:j<ztt cs v x * x.c * zbx cs v x):dig (cd cs (fam x.ps v)) j=dig (cd cs (lo x.ps v)) (j / (x.c * zbx cs v x))++ j / zbx cs v x % x.c :: dig (cd cs (hi x.ps v)) (j % zbx cs v x):=by
 have hB:=h.B0;have hc:=h.c1;have hp:zac (x.c :: cd cs (hi x.ps v))=x.c * zbx cs v x:=rfl;have hp0:0<x.c * zbx cs v x:=qc0 (by omega) hB;rw[h.cdf,zqs _ _ _ (by rw[hp]; exact hp0) (by rw[hp,<- qaZ]; exact hj),hp];congr 1
 show j % (x.c * zbx cs v x) / zbx cs v x :: dig (cd cs (hi x.ps v)) (j % (x.c * zbx cs v x) % zbx cs v x)=_;rw[show j % (x.c * zbx cs v x) / zbx cs v x=j / zbx cs v x % x.c by rw[qaV,Nat.mod_mul_right_div_self],Nat.mod_mod_of_dvd _ ⟨x.c,qaV _ _⟩]
theorem zHV{a a' b b':List Nat}{x x':Nat}(h:a ++ x :: b=a' ++ x' :: b')(hl:a.length=a'.length):a=a'/\x=x'/\b=b':=by
 obtain⟨h1,h2⟩:=List.append_inj h hl;obtain⟨h3,h4⟩:=qcH h2;exact⟨h1,h3,h4⟩
theorem zxu{cs:List Nat}(h:FacOk cs v x){F:Nat->Nat}(hj:j<ztt cs v x * x.c * zbx cs v x)(e:(fam x.ps v).map F=dig (cd cs (fam x.ps v)) j):F v=j / zbx cs v x % x.c/\x.ps.map F=dig (cd cs x.ps) (j / (x.c * zbx cs v x)* zbx cs v x+j % zbx cs v x):=by
 rw[zA7 h hj]at e;unfold fam at e;rw[qa1,qaz]at e;obtain⟨h1,h2,h3⟩:=zHV e (by rw[qak,zf0]; simp[cd]);refine⟨h2,?_⟩;have hB:=h.B0;have hmod:=qbk j hB;have ha:j / (x.c * zbx cs v x)<ztt cs v x:=qbL (by rw[qaV (x.c * zbx cs v x),<- qaZ]; exact hj);have hlt:j / (x.c * zbx cs v x)* zbx cs v x+j % zbx cs v x<ztt cs v x * zbx cs v x:=by
  have:=qau (zbx cs v x) (show j / (x.c * zbx cs v x)+1<=ztt cs v x from ha);rw[qaQ,qa6]at this;omega
 have hps:cd cs x.ps=cd cs (lo x.ps v)++ cd cs (hi x.ps v):=by rw[<- zlT,zwG h.inc h.nv]
 rw[hps,zqs _ _ _ hB hlt];have d1:(j / (x.c * zbx cs v x)* zbx cs v x+j % zbx cs v x) / zbx cs v x=j / (x.c * zbx cs v x):=by rw[qce,qcx _ _ hB,qbX hmod,qaR]
 have d2:(j / (x.c * zbx cs v x)* zbx cs v x+j % zbx cs v x) % zbx cs v x=j % zbx cs v x:=by rw[qce,qbB,Nat.mod_mod]
 show _=dig _ ((j / (x.c * zbx cs v x)* zbx cs v x+j % zbx cs v x) / zbx cs v x)++ dig _ ((j / (x.c * zbx cs v x)* zbx cs v x+j % zbx cs v x) % zbx cs v x);rw[d1,d2,<- h1,<- h3,<- qa1,zwG h.inc h.nv]
theorem zDr{A B:Nat}(hB:0<B)(hj:j<A * c * B):j / (c * B)* B+j % B<A * B:=by
 have hmod:=qbk j hB;have ha:j / (c * B)<A:=qbL (by rw[qaV (c * B),<- qaZ]; exact hj);have:=qau B (show j / (c * B)+1<=A from ha);rw[qaQ,qa6]at this;omega
theorem zAY{cs us:List Nat}(h:∀ c∈cs,1<=c/\c<=4)(hu:∀ u∈us,u<cs.length):∀ c∈cd cs us,1<=c/\c<=8:=λc hc=>⟨(zgq h hu c hc).1,qaq (zgq h hu c hc).2 (by decide)⟩
def zxH(ns:List NN):List S_api_Factor:=(List.range ns.length).map λv=>(zig (ns.map (·.c)) v (ns.getD v ⟨0,[],[]⟩)).D
theorem ziA{α:Type}{xs:List α}{d:α}:xs.getD i d=d\/xs.getD i d∈xs:=by
 rw[qal];rcases qaY i xs.length with h | h
 .rw[qac h];exact .inr (qam h)
 rw[qbF h];exact .inl rfl
theorem zug{B:Nat}{rows:List (List Nat)}(h:∀ r∈rows,∀ w∈r,w<=60)(j:Nat):zCU B c rows j<=60:=by
 unfold zCU;rcases ziA (xs:=rows) (i:=j / (c * B)* B+j % B) (d:=[])with e | e
 .rw[e]; simp
 rcases ziA (xs:=rows.getD (j / (c * B)* B+j % B) []) (i:=j / B % c) (d:=0)with e2 | e2
 .rw[e2]; omega
 exact h _ e _ e2
theorem zpL{cs:List Nat}(h:FacOk cs v x):FcOk (zig cs v x):=by
 have h8:=h.fl8;have hle:=h.le;have hsz:=h.size;refine⟨by simp[zig,cd],by simp only[zig,cd,qak]; omega,zAY h.zaF h.flt,?_,?_,zmE h.inc,λu hu=>?_,λw hw=>?_⟩
 .show zac (cd cs (fam x.ps v))<=4096;omega
 .show _=zac (cd cs (fam x.ps v));rw[hsz];simp[zig]
 .have:=h.flt u hu;have:=h.l8;omega
 obtain⟨j,_,rfl⟩:=qaB.1 hw;have:=zug (B:=zbx cs v x) (c:=x.c) h.num j;simp only[zdv];omega
theorem zDK{g:Nat}{ns:List NN}{sets os:List Int}(h:RightN g ns):∀(n i:Nat),i<=ns.length->ns.length - i<n ->
  zcO (⟨zbZ g ns,iL (ns.map (·.c)),sets,os⟩,0) n (i:Int) (((List.range i).map λv=>(zig (ns.map (·.c)) v (ns.getD v ⟨0,[],[]⟩)).D)++ List.replicate (ns.length - i) ⟨[],[],[]⟩)=some (zxH ns)
 | 0,_,_,h=>absurd h (qaj _)
 | n+1,i,h1,h2=>by
  have hn:=h.n2;have hnl:(zbZ g ns).nodes.length=ns.length:=by simp[zbZ]
  unfold zcO;simp only[];rw[hnl,qay,zaz];by_cases hi:i<ns.length
  .have hx:ns[i]? = some (ns.getD i ⟨0,[],[]⟩):=by rw[qal,qac hi]; rfl
   have hf:=h.fac hx;have hlen:(((List.range i).map λv=>(zig (ns.map (·.c)) v (ns.getD v ⟨0,[],[]⟩)).D)++ List.replicate (ns.length - i) (⟨[],[],[]⟩:S_api_Factor)).length=ns.length:=by simp; omega
   have ih:=zDK (sets:=sets) (os:=os) h n (i+1) hi (by omega);have e:(((List.range i).map λv=>(zig (ns.map (·.c)) v (ns.getD v ⟨0,[],[]⟩)).D)++ List.replicate (ns.length - i) (⟨[],[],[]⟩:S_api_Factor)).set i (zig (ns.map (·.c)) i (ns.getD i ⟨0,[],[]⟩)).D=((List.range (i+1)).map λv=>(zig (ns.map (·.c)) v (ns.getD v ⟨0,[],[]⟩)).D)++ List.replicate (ns.length - (i+1)) ⟨[],[],[]⟩:=by
    rw[qb2 _ _ (by simp),qak,qdc,qcf,show ns.length - i=(ns.length - (i+1))+1 by omega,qaS,qb7,List.range_succ,qa1,qaF];rfl
   rw[qdv hi,qdt,zEk hx hf,qaa,zaA (by rw[hlen]; exact hi),qaa,zeV (by rw[hlen]; exact hi),qaa,zaf (by omega),e,ih]
  have:i=ns.length:=by omega
  subst this;rw[qdw (qcc _),qdu,qcf,qcG,qaH];rfl
theorem ztg(h:RightN g ns):zd0 (zbZ g ns)=some (zxH ns,0):=by
 obtain⟨os,_,_,e⟩:=zwA h;have hn:=h.n2;have hnl:(zbZ g ns).nodes.length=ns.length:=by simp[zbZ]
 have e1:=zDK (sets:=iL (zau ns)) (os:=iL os) h (ns.length+2) 0 (qar _) (by omega);rw[show((0:Nat):Int)=0 from rfl,List.range_zero,qc2,qaP,qde]at e1;unfold zd0;rw[e,qaa];simp only[];rw[show((0:Int)== 0)=true from rfl,qdt,hnl,zdH (by omega),qaa,qay,zap,e1,qaa]
def zCY(cs:List Nat)(x:NN)(s:Nat->Nat):Nat:=dot (x.ps.map s) (zaM (cd cs x.ps))
theorem zBl{cs:List Nat}(hu:u∈fam x.ps v):at_ (zig cs v x).vs (zig cs v x).cs u=cs.getD u 0:=zh1 (h:=λp=>cs.getD p 0) hu
variable{s:Nat->Nat}
theorem zyL{cs:List Nat}{v:Nat}{x:NN}(h:FacOk cs v x)(hs:∀ u∈fam x.ps v,s u<cs.getD u 0):(zig cs v x).val s=(x.rows.getD (zCY cs x s) []).getD (s v) 0/\zCY cs x s<x.rows.length:=by
 have hok:=zpL h;have hb:zc3 (cd cs (fam x.ps v)) ((fam x.ps v).map s):=Fit.below hok (f:=zig cs v x) λu hu=>by rw[zBl hu]; exact hs u hu
 have hlt:=zkJ hb;have hdig:=znx hb;have hj:dot ((fam x.ps v).map s) (zaM (cd cs (fam x.ps v)))<ztt cs v x * x.c * zbx cs v x:=by rw[<- h.size]; exact hlt
 obtain⟨k1,k2⟩:=zxu h (F:=s) hj hdig.symm;have hkl:=zDr h.B0 hj;have hps:zac (cd cs x.ps)=ztt cs v x * zbx cs v x:=by rw[<- h.len,h.zGz]
 have hr:zCY cs x s=dot ((fam x.ps v).map s) (zaM (cd cs (fam x.ps v))) / (x.c * zbx cs v x)* zbx cs v x+dot ((fam x.ps v).map s) (zaM (cd cs (fam x.ps v))) % zbx cs v x:=by
  unfold zCY;rw[k2,ziC (zAY h.zaF h.lt) (by rw[hps]; exact hkl)]
 refine⟨?_,by rw[hr,h.zGz]; exact hkl⟩;show(zig cs v x).get (dot ((fam x.ps v).map s) (zaM (cd cs (fam x.ps v))))=_;rw[hr,k1];unfold Fc.get zig;simp only[];rw[get_map hj];rfl
theorem zzn{cs:List Nat}(h:FacOk cs v x)(i:Nat):(zig cs v x).get i<=60:=by
 unfold Fc.get;rcases ziA (xs:=(zig cs v x).ws) (i:=i) (d:=0)with e | e
 .rw[e]; omega
 obtain⟨j,_,e2⟩:=qaB.1 e;rw[<- e2];exact zug h.num j
theorem zBf(xs:List Nat):big false xs=xs.sum:=by
 induction xs with
 | nil=>rfl
 | cons x xs ih=>rw[zrI,ih]; rfl
theorem zsc:∀(cs:List Nat),(∀ c∈cs,1<=c)->dot (cs.map (· - 1)) (zaM cs)+1=zac cs
 | [],_=>rfl
 | c :: cs,h=>by
  have ih:=zsc cs λd hd=>h d (qag c hd)
  have hc:=h c qai;show(c - 1)* zac cs+dot (cs.map (· - 1)) (zaM cs)+1=c * zac cs;have:c * zac cs=(c - 1)* zac cs+zac cs:=by
   conv=>lhs; rw[show c=(c - 1)+1 by omega,qaQ,qa6]
  omega
def zno(cs:List Nat)(us:List Nat)(s:Nat->Nat)(u:Nat):Nat:=bif decide (u∈us)then cs.getD u 0 - 1 else s u
structure Fixd (cs:List Nat) (v:Nat) (x:NN) (i:Nat) (f:Fc):Prop where
 ok:FcOk f
 vs:f.vs=(fam x.ps v).filter λu=>!decide (u∈x.ps.take i)
 cs_:f.cs=cd cs f.vs
 val:∀ s,(∀ u∈f.vs,s u<cs.getD u 0)->f.val s=(zig cs v x).val (zno cs (x.ps.take i) s)
theorem Fixd.zero{cs:List Nat}(h:FacOk cs v x):Fixd cs v x 0 (zig cs v x):=by
 refine⟨zpL h,?_,rfl,λs _=>?_⟩
 .rw[qb0];exact(qc1.2 λu _=>by simp).symm
 refine val_congr λu _=>?_
 unfold zno;rw[qb0,qdw (by simp),qdu]
theorem ztP{cs:List Nat}(h:∀ c∈cs,1<=c/\c<=4)(hu:u<cs.length):1<=cs.getD u 0/\cs.getD u 0<=4:=zgq (us:=[u]) h (λw hw=>by rw[qaD.1 hw]; exact hu) _ (qaD.2 rfl)
variable{xs:List Nat}
theorem zo0(h:j<xs.length):xs[j]=xs.getD j 0:=by
 rw[qal,qac h];rfl
variable{f:Fc}
theorem Fixd.last{cs:List Nat}(h:FacOk cs v x)(hf:Fixd cs v x x.ps.length f):f.ws=x.rows.getD (x.rows.length - 1) []:=by
 have hvs:f.vs=[v]:=by
  rw[hf.vs,qbR];refine ziM (qbc _ (zmE h.inc)) (by simp) λu=>?_
  simp only[qaO,zmZ,qbT,decide_eq_false_iff_not,qaD];constructor
  .rintro⟨h1 | h1,h2⟩
   .exact h1
   exact absurd h1 h2
  rintro rfl;exact⟨.inl rfl,h.nv⟩
 have hcs:f.cs=[x.c]:=by rw[hf.cs_,hvs]; show [cs.getD v 0]=_; rw[h.cv]
 have hc1:=h.c1;have hsz:=hf.ok.size;have hp1:zac f.cs=x.c:=by rw[hcs]; simp[zac]
 have h1:1<=x.rows.length:=by rw[h.len]; exact zey λc hc=>(zgq h.zaF h.lt c hc).1
 have hrl:(x.rows.getD (x.rows.length - 1) []).length=x.c:=by
  rw[qal,qac (by omega)];exact h.row _ (qam _)
 refine qcr (by rw[hsz,hp1,hrl]) λj a b=>?_
 have hj:j<zac f.cs:=by rw[<- hsz]; exact a
 have hjc:j<x.c:=by rw[<- hp1]; exact hj
 have e1:=zwc hf.ok hj;have hat:at_ f.vs (dig f.cs j) v=j:=by
  rw[hvs,hcs];simp[dig,at_,zac]
 rw[hf.val _ λu hu=>?_]at e1
 .have hfit:∀ u∈fam x.ps v,zno cs (x.ps.take x.ps.length) (at_ f.vs (dig f.cs j)) u<cs.getD u 0:=by
   intro u hu;unfold zno;rw[qbR];by_cases e:u∈x.ps
   .have:=(ztP h.zaF (h.lt u e)).1;rw[qdv e,qdt]; omega
   have:u=v:=(zmZ.1 hu).resolve_right e;subst this;rw[qdw e,qdu,hat,h.cv];exact hjc
  obtain⟨k1,k2⟩:=zyL h hfit;have k3:zCY cs x (zno cs (x.ps.take x.ps.length) (at_ f.vs (dig f.cs j)))=x.rows.length - 1:=by
   unfold zCY;have:x.ps.map (zno cs (x.ps.take x.ps.length) (at_ f.vs (dig f.cs j)))=(cd cs x.ps).map (· - 1):=by
    unfold cd;rw[qcQ];refine qbr λu hu=>?_
    unfold zno;rw[qbR,qdv hu,qdt];rfl
   rw[this];have:=zsc (cd cs x.ps) λc hc=>(zgq h.zaF h.lt c hc).1
   rw[h.len];omega
  have k4:zno cs (x.ps.take x.ps.length) (at_ f.vs (dig f.cs j)) v=j:=by
   unfold zno;rw[qbR,qdw h.nv,qdu,hat]
  rw[k1,k3,k4]at e1;unfold Fc.get at e1;rw[zo0 a,zo0 b];exact e1.symm
 rw[hvs]at hu;rw[qaD.1 hu,hat,h.cv];exact hjc
def zt1:Nat->(Nat->Nat)->Nat
 | 0,_=>0
 | n+1,f=>zt1 n f+f n
theorem zlY{f g:Nat->Nat}:∀ {n:Nat},(∀ x,x<n->f x=g x)->zt1 n f=zt1 n g
 | 0,_=>rfl
 | n+1,h=>by
  unfold zt1;rw[zlY (n:=n) λx hx=>h x (by omega),h n (by omega)]
theorem zrO{a:Nat}{f:Nat->Nat}:∀ n:Nat,zt1 n (λx=>a * f x)=a * zt1 n f
 | 0=>rfl
 | n+1=>by
  show zt1 n (λx=>a * f x)+a * f n=a * (zt1 n f+f n);rw[zrO n,qdb]
theorem zoD(f:Nat->Nat):∀ n:Nat,zt1 n f=((List.range' 0 n).map f).sum
 | 0=>rfl
 | n+1=>by
  rw[List.range'_concat];unfold zt1;rw[zoD f n];simp
theorem ztd{a b:List Nat}(h:a.Perm b):zac a=zac b:=by
 induction h with
 | nil=>rfl
 | cons x _ ih=>show x * zac _=x * zac _; rw[ih]
 | swap x y l=>
  show y * (x * zac l)=x * (y * zac l);rw[<- qaZ,<- qaZ,qaV y x]
 | trans _ _ ih1 ih2=>rw[ih1,ih2]
abbrev ztV:NN:=⟨0,[],[]⟩
def wtO(ns:List NN)(L:List Nat)(s:Nat->Nat):Nat:=zac (L.map λv=>(zig (ns.map (·.c)) v (ns.getD v ztV)).val s)
theorem zzo(h:v<ns.length):ns[v]? = some (ns.getD v ztV):=by
 rw[qal,qac h];rfl
structure NCs (cs:List Nat):Prop where
 zaF:∀ c∈cs,1<=c/\c<=4
 l8:cs.length<=8
 prod:zac cs<=1024
structure Stc (cs:List Nat) (f:Fc) (M:Nat):Prop where
 ok:FcOk f
 cs_:f.cs=cd cs f.vs
 var:∀ v∈f.vs,v<cs.length
 le:∀ i,f.get i<=M
theorem NCs.vars{cs vs:List Nat}(h:NCs cs)(hi:vs.Pairwise (· < ·))(hv:∀ v∈vs,v<cs.length):zac (cd cs vs)<=1024/\vs.length<=8/\(∀ c∈cd cs vs,1<=c/\c<=8)/\zcF (iL (cd cs vs))=true:=by
 have h1:=qaq (zmr (λc hc=>(h.zaF c hc).1) hi hv) h.prod;have h2:=qaq (zhq hi hv) h.l8;have h3:=zAY h.zaF hv
 grind [zcF,zai,cd,zic]
variable{M:Nat}
theorem Stc.at{cs:List Nat}(h:Stc cs f M)(hv:v∈f.vs):at_ f.vs f.cs v=cs.getD v 0:=by
 rw[h.cs_]
 grind [zh1,Go.Dc.cd]
variable{N:Nat}
theorem Stc.agr{cs:List Nat}{g:Fc}(hf:Stc cs f M)(hg:Stc cs g N):Agr f g:=λv h1 h2=>by rw[hf.at h1,hg.at h2]
theorem Stc.ucs{cs:List Nat}{g:Fc}(hf:Stc cs f M)(hg:Stc cs g N):ucs f g=cd cs (uni f g):=by
 refine qbr λv hv=>?_
 rcases(zeL hf.ok hg.ok).1 hv with h | h
 .rw[zF9 h,hf.at h]
 rw[zFZ (hf.agr hg) h,hg.at h]
theorem Stc.uv{cs:List Nat}{f g:Fc}(hf:Stc cs f M)(hg:Stc cs g N):∀ v∈uni f g,v<cs.length:=λv hv=>((zeL hf.ok hg.ok).1 hv).elim (hf.var v) (hg.var v)
theorem Stc.zah{cs:List Nat}{g:Fc}(hc:NCs cs)(hf:Stc cs f M)(hg:Stc cs g N):zcF (iL (Go.Dc.ucs f g))=true:=by
 rw[hf.ucs hg];exact(hc.vars (ziI f g) (hf.uv hg)).2.2.2
theorem Stc.zqP{cs:List Nat}{g:Fc}(hf:Stc cs f M)(hg:Stc cs g N)(hB:M * N<=zdv):Go.Dc.zqP f g=true:=
 qcp.2 λj _=>qdv (qaq (qa2 (hf.le _) (hg.le _)) hB)
theorem Stc.mul{cs:List Nat}{g:Fc}(hc:NCs cs)(hf:Stc cs f M)(hg:Stc cs g N)(hB:M * N<=zdv):Stc cs (ztm f g) (M * N):=by
 refine⟨zBh hf.ok hg.ok (hf.zah hc hg) (hf.zqP hg hB),hf.ucs hg,hf.uv hg,zgW λx hx=>?_⟩;obtain⟨j,_,rfl⟩:=qaB.1 hx;exact qa2 (hf.le _) (hg.le _)
theorem Stc.zCe{cs:List Nat}{f g:Fc}{M N:Nat}(hc:NCs cs)(hf:Stc cs f M)(hg:Stc cs g N)(hB:M * N<=zdv):zc7 f.D g.D=some ((ztm f g).D,0):=by
 rw[Go.Dc.zCe hf.ok hg.ok,(zpd hf.ok hg.ok).2 (hf.agr hg),qdt];unfold mulR;rw[hf.zah hc hg,qdt,hf.zqP hg hB,qdt]
def zxd(cs:List Nat)(s:Nat->Nat):Prop:=∀ v,v<cs.length->s v<cs.getD v 0
theorem Stc.fit{cs:List Nat}(h:Stc cs f M)(hs:zxd cs s):Fit f s:=λv hv=>by rw[h.at hv]; exact hs v (h.var v hv)
theorem Stc.zp9{cs:List Nat}{f g:Fc}{M N:Nat}(hc:NCs cs)(hf:Stc cs f M)(hg:Stc cs g N)(hB:M * N<=zdv){s:Nat->Nat}(hs:zxd cs s):(ztm f g).val s=f.val s * g.val s:=Go.Dc.zp9 hf.ok hg.ok (hf.zah hc hg) ((hf.mul hc hg hB).fit hs)
theorem RightN.ncs(h:RightN g ns):NCs (ns.map (·.c)):=⟨h.cs.zaF,by simpa using h.n2,h.prod⟩
theorem RightN.stc(h:RightN g ns)(hv:v<ns.length):Stc (ns.map (·.c)) (zig (ns.map (·.c)) v (ns.getD v ztV)) 60:=by
 have hf:=h.fac (zzo hv);exact⟨zpL hf,rfl,hf.flt,zzn hf⟩
def zpY:Fc:=⟨[],[],[1]⟩
theorem znc(cs:List Nat):Stc cs zpY 1:=by
 refine⟨⟨rfl,by simp[zpY],by simp[zpY],by simp[zpY,zac],rfl,List.Pairwise.nil,by simp[zpY],λw hw=>by rw[qaD.1 hw]; decide⟩,rfl,by simp[zpY],zgW (by simp[zpY])⟩
theorem zBT(s:Nat->Nat):zpY.val s=1:=rfl
structure Prf (ns:List NN) (i:Nat) (f:Fc):Prop where
 st:Stc (ns.map (·.c)) f (60 ^ i)
 mem:∀ v,v<i->v∈f.vs
 val:∀ s,zxd (ns.map (·.c)) s->f.val s=wtO ns (List.range i) s
theorem zsO:∀(cs:List Nat) (w:Nat),zE7 cs w=dig cs w
 | [],_=>rfl
 | c :: cs,w=>by
  unfold zE7 dig;rw[zsO cs]
def wld(ns:List NN)(w:Nat):Nat->Nat:=zhd (List.range ns.length) (dig (ns.map (·.c)) w) λ_=>0
theorem zAR(ns:List NN)(w:Nat):(List.range ns.length).map (wld ns w)=dig (ns.map (·.c)) w:=by
 have hl:(List.range ns.length).length=(dig (ns.map (·.c)) w).length:=by rw[zf0]; simp
 simp_all [zoO,qcM,qbr,zpM,wld]
theorem zCb(ns:List NN)(w:Nat)(hu:u<ns.length):wld ns w u=(dig (ns.map (·.c)) w).getD u 0:=by
 grind [zAR]
theorem zBm(h:RightN g ns)(hw:w<zac (ns.map (·.c))):zxd (ns.map (·.c)) (wld ns w):=by
 intro v hv;have hv':v<ns.length:=by simpa using hv
 rw[zCb ns w hv',<- zsO];have:=zvP hw v hv
 simp_all
def wtW(ns:List NN)(w:Nat):Nat:=wtO ns (List.range ns.length) (wld ns w)
theorem Prf.get{g:Nat}{ns:List NN}(h:RightN g ns){f:Fc}(hf:Prf ns ns.length f):f.ws.length=zac (ns.map (·.c))/\∀ w,w<zac (ns.map (·.c))->zaE (iL f.ws) (w:Int)=some ((wtW ns w:Nat):Int):=by
 have hvs:f.vs=List.range ns.length:=ziM hf.st.ok.inc qbY λv=>by
  rw[qbd];exact⟨λhv=>by simpa using hf.st.var v hv,hf.mem v⟩
 have hcs:f.cs=ns.map (·.c):=by
  rw[hf.st.cs_,hvs]
  grind [zsw,qak,Go.Dc.cd]
 have hsz:=hf.st.ok.size;rw[hcs]at hsz;refine⟨hsz,λw hw=>?_⟩;have e:=zwc hf.st.ok (i:=w) (by rw[hcs]; exact hw);have e2:f.val (at_ f.vs (dig f.cs w))=f.val (wld ns w):=by
  refine val_congr λu hu=>?_
  rw[hvs,hcs];rw[hvs]at hu;exact(zpM qcM (by rw[zf0]; simp) hu).symm
 grind [zBm,Prf,wtW,Go.Dc.zaE,Go.Dc.iL,Go.Dc.Fc.get]
theorem Stc.zaF{cs:List Nat}(h:Stc cs f M)(hv:pos f.vs v=some k)(hk:k<f.cs.length):f.cs[k]=cs.getD v 0:=by
 obtain⟨h1,e⟩:=zdE hv;rw[<- zpF h.ok hv hk,h.at (e ▸ qam h1)]
theorem Stc.mono{cs:List Nat}(h:Stc cs f M)(hl:M<=N):Stc cs f N:=⟨h.ok,h.cs_,h.var,λi=>qaq (h.le i) hl⟩
theorem Stc.klt{cs:List Nat}(h:Stc cs f M)(hv:pos f.vs v=some k):k<f.cs.length:=by
 obtain⟨h1,_⟩:=zdE hv;rw[<- h.ok.len]; exact h1
theorem Stc.fix{cs:List Nat}(hf:Stc cs f M)(hv:pos f.vs v=some k)(p:Nat):Stc cs (fixF f v k p) M:=by
 have hk:=hf.klt hv;refine⟨zCL hf.ok hv hk p,?_,λu hu=>hf.var u (qaO.1 hu).1,zgW λx hx=>?_⟩
 .show f.cs.eraseIdx k=(rest f v).map _;rw[<- zgX hf.ok hv];exact qbr λu hu=>hf.at (qaO.1 hu).1
 grind [Go.Dc.Stc,Go.Dc.fixF]
theorem Stc.zCH{cs:List Nat}{f:Fc}{M:Nat}(hf:Stc cs f M){v k p:Nat}(hv:pos f.vs v=some k)(hp:p<cs.getD v 0):zdf f.D (v:Int) (p:Int)=some ((fixF f v k p).D,0):=by
 have hk:=hf.klt hv;exact Go.Dc.zCH hf.ok hv hk (by rw[hf.zaF hv hk]; exact hp)
theorem zyi{cs:List Nat}(hs:zxd cs s){p:Nat}(hp:p<cs.getD v 0):zxd cs (upd s v p):=by
 grind [Go.Dc.zxd,Go.Dc.upd]
def zsE(f:Fc)(v:Nat):Fc:=gF f (rest f v) ((gat false f (rest f v)).getD [])
theorem Stc.sum{cs:List Nat}(hf:Stc cs f M)(hB:zac f.cs * M<=zdv)(hv:pos f.vs v=some k):
  zb3 f.D (v:Int)=some ((zsE f v).D,0)/\Stc cs (zsE f v) (cs.getD v 0 * M)/\∀ s,zxd cs s->(zsE f v).val s=zt1 (cs.getD v 0) λp=>f.val (upd s v p):=by
 have hk:=hf.klt hv;have hg:=zrZ false hf.ok (zh5 hf.ok v) hf.le hB;have e:zsE f v=gF f (rest f v) ((List.range' 0 (zac (cof f (rest f v)))).map λj=>big false (fib f (rest f v) (zac f.cs) 0 j)):=by unfold zsE; rw[hg]; rfl
 refine⟨?_,?_,λs hs=>?_⟩
 .rw[zGt hf.ok hv,hg,e]; rfl
 .rw[e];refine⟨zFP hf.ok (zh5 hf.ok v) hg,?_,λu hu=>hf.var u (qaO.1 hu).1,zgW λx hx=>?_⟩
  .exact qbr λu hu=>hf.at (qaO.1 hu).1
  obtain⟨j,hj,rfl⟩:=qaB.1 hx;have hj':=(qcT.1 hj).2;rw[zgX hf.ok hv,qaR]at hj';rw[zri hf.ok hv hk hj'];refine qaq (zAi (M:=M) λy hy=>?_) (qau M ?_)
  .grind [Go.Dc.Stc]
  rw[qak,List.length_range',hf.zaF hv hk];exact qap _
 have h:=Go.Dc.zCy false hf.ok hv hk hf.le hB hg (s:=s) λu hu=>hf.fit hs u (qaO.1 hu).1
 rw[e,h,zBf,hf.zaF hv hk,zoD]
theorem zrT:u∈(zsE f v).vs↔u∈f.vs/\u≠v:=by
 show u∈rest f v↔_
 grind [rest]
structure Lok (cs:List Nat) (ps:List (Fc×Nat)):Prop where
 st:∀ p∈ps,Stc cs p.1 p.2
 one:∀ p∈ps,1<=p.2
abbrev bnd(ps:List (Fc×Nat)):Nat:=zac (ps.map (·.2))
variable{ps:List (Fc×Nat)}
theorem Lok.zC2{cs:List Nat}(h:Lok cs ps):1<=bnd ps:=zey λx hx=>by
 grind [Lok]
theorem Lok.tail{cs:List Nat}{p:Fc×Nat}(h:Lok cs (p :: ps)):Lok cs ps:=⟨λq hq=>h.st q (qag _ hq),λq hq=>h.one q (qag _ hq)⟩
theorem Lok.sub{cs:List Nat}{qs:List (Fc×Nat)}(h:Lok cs ps)(hs:∀ q∈qs,q∈ps):Lok cs qs:=⟨λq hq=>h.st q (hs q hq),λq hq=>h.one q (hs q hq)⟩
theorem Lok.app{cs:List Nat}{qs:List (Fc×Nat)}(h:Lok cs ps)(h':Lok cs qs):Lok cs (ps ++ qs):=
 ⟨λq hq=>(qbf.1 hq).elim (h.st q) (h'.st q),λq hq=>(qbf.1 hq).elim (h.one q) (h'.one q)⟩
def zwe:Fc->List (Fc×Nat)->Fc
 | a,[]=>a
 | a,p :: ps=>zwe (ztm a p.1) ps
def gL(ps:List (Fc×Nat))(s:Nat->Nat):Nat:=zac (ps.map λp=>p.1.val s)
theorem zAM(p:Fc×Nat)(ps:List (Fc×Nat))(s:Nat->Nat):gL (p :: ps) s=p.1.val s * gL ps s:=rfl
theorem zDc(ps qs:List (Fc×Nat))(s:Nat->Nat):gL (ps ++ qs) s=gL ps s * gL qs s:=by
 grind [gL,zfv]
theorem zjA(p:Fc×Nat)(ps:List (Fc×Nat)):bnd (p :: ps)=p.2 * bnd ps:=rfl
theorem zru{cs:List Nat}(hc:NCs cs):∀ {ps:List (Fc×Nat)} {a:Fc} {A:Nat},Stc cs a A->Lok cs ps->A * bnd ps<=zdv->Stc cs (zwe a ps) (A * bnd ps)
 | [],a,A,ha,_,_=>by
  show Stc cs a (A * 1)
  simp_all
 | p :: ps,a,A,ha,h,hB=>by
  have h1:=h.tail.zC2;rw[zjA,<- qaZ]at hB ⊢;have hB1:A * p.2<=zdv:=qaq (qaJ _ h1) hB;exact zru hc (ha.mul hc (h.st p qai) hB1) h.tail hB
theorem zsf{cs:List Nat}(hc:NCs cs):∀ {ps:List (Fc×Nat)} {a:Fc} {A:Nat},Stc cs a A->Lok cs ps->A * bnd ps<=zdv->∀ s,zxd cs s->(zwe a ps).val s=a.val s * gL ps s
 | [],a,A,_,_,_,s,_=>(qca _).symm
 | p :: ps,a,A,ha,h,hB,s,hs=>by
  have h1:=h.tail.zC2;rw[zjA,<- qaZ]at hB;have hB1:A * p.2<=zdv:=qaq (qaJ _ h1) hB;have hp:=h.st p qai;show(zwe (ztm a p.1) ps).val s=_;rw[zsf hc (ha.mul hc hp hB1) h.tail hB s hs,ha.zp9 hc hp hB1 hs,zAM,qaZ]
theorem zsM{cs:List Nat}(hc:NCs cs){u:Nat}:∀ {ps:List (Fc×Nat)} {a:Fc} {A:Nat},Stc cs a A->Lok cs ps->A * bnd ps<=zdv->(u∈(zwe a ps).vs↔u∈a.vs\/∃ p∈ps,u∈p.1.vs)
 | [],a,A,_,_,_=>by simp[zwe]
 | p :: ps,a,A,ha,h,hB=>by
  have h1:=h.tail.zC2;rw[zjA,<- qaZ]at hB;have hB1:A * p.2<=zdv:=qaq (qaJ _ h1) hB;have hp:=h.st p qai;show u∈(zwe (ztm a p.1) ps).vs↔_;rw[zsM hc (ha.mul hc hp hB1) h.tail hB,show(u∈(ztm a p.1).vs↔u∈a.vs\/u∈p.1.vs)from zeL ha.ok hp.ok]
  grind
def zbX(ps:List (Fc×Nat)):Fc:=zwe zpY ps
theorem zfb{cs:List Nat}(hc:NCs cs)(h:Lok cs ps)(hB:bnd ps<=zdv):Stc cs (zbX ps) (bnd ps):=by
 have:=zru hc (znc cs) h (by rw[qa6]; exact hB)
 rwa [qa6]at this
theorem zuN{cs:List Nat}(hc:NCs cs)(h:Lok cs ps)(hB:bnd ps<=zdv)(hs:zxd cs s):(zbX ps).val s=gL ps s:=by
 have:=zsf hc (znc cs) h (by rw[qa6]; exact hB) s hs
 rwa [zBT,qa6]at this
theorem zgx{cs:List Nat}(hc:NCs cs){ps:List (Fc×Nat)}(h:Lok cs ps)(hB:bnd ps<=zdv):u∈(zbX ps).vs↔∃ p∈ps,u∈p.1.vs:=by
 have:=zsM hc (u:=u) (znc cs) h (by rw[qa6]; exact hB)
 grind [zbX,Go.Dc.zpY]
def occ(ps:List (Fc×Nat))(x:Nat):Bool:=ps.any λp=>decide (x∈p.1.vs)
theorem zmO{ps:List (Fc×Nat)}{x:Nat}:occ ps x=true↔∃ p∈ps,x∈p.1.vs:=by
 grind [occ]
def za0(x:Nat)(ps:List (Fc×Nat)):List (Fc×Nat):=ps.filter λp=>decide (x∈p.1.vs)
def zeH(x:Nat)(ps:List (Fc×Nat)):List (Fc×Nat):=ps.filter λp=>!decide (x∈p.1.vs)
theorem ziT{α:Type}(g:α->Nat)(q:α->Bool):∀ xs:List α,zac ((xs.filter q).map g)* zac ((xs.filter λx=>!q x).map g)=zac (xs.map g)
 | []=>rfl
 | x :: xs=>by
  have ih:=ziT g q xs
  grind [zac]
def zgK(k:Nat->Nat)(x:Nat)(ps:List (Fc×Nat)):List (Fc×Nat):=zeH x ps ++ [(zsE (zbX (za0 x ps)) x,k x * bnd (za0 x ps))]
theorem zfe{x:Nat}{ps:List (Fc×Nat)}:∀ q∈za0 x ps,q∈ps:=λq hq=>(qaO.1 hq).1
theorem zhF{x:Nat}{ps:List (Fc×Nat)}:∀ q∈zeH x ps,q∈ps:=λq hq=>(qaO.1 hq).1
theorem zr2{x:Nat}{ps:List (Fc×Nat)}:∀ q∈zeH x ps,x ∉ q.1.vs:=λq hq=>by
 grind [zeH]
theorem zoY(x:Nat)(ps:List (Fc×Nat)):bnd (za0 x ps)* bnd (zeH x ps)=bnd ps:=ziT (·.2) _ ps
theorem zyx(x:Nat)(ps:List (Fc×Nat))(s:Nat->Nat):gL (za0 x ps) s * gL (zeH x ps) s=gL ps s:=ziT (α:=Fc×Nat) (λp=>p.1.val s) (λp=>decide (x∈p.1.vs)) ps
theorem zyd{ps:List (Fc×Nat)}{t:Nat->Nat}(h:∀ p∈ps,∀ v∈p.1.vs,s v=t v):gL ps s=gL ps t:=by
 unfold gL;rw[qbr λp hp=>val_congr (f:=p.1) λv hv=>h p hp v hv]
structure Est (cs:List Nat) (C:Nat) (E:List Nat) (ps:List (Fc×Nat)):Prop where
 lok:Lok cs ps
 nod:E.Nodup
 lt:∀ x∈E,x<cs.length
 out:∀ p∈ps,∀ v∈p.1.vs,v ∉ E
 b:bnd ps<=C * zac (cd cs E)
theorem zlK{cs:List Nat}(hc:NCs cs){E:List Nat}(hn:E.Nodup)(hl:∀ x∈E,x<cs.length):zac (cd cs E)<=1024:=by
 have hp:E.Perm ((List.range cs.length).filter λx=>decide (x∈E)):=by
  grind [qcM]
 have e:zac (cd cs E)=zac (cd cs ((List.range cs.length).filter λx=>decide (x∈E))):=ztd (hp.map _);rw[e];exact qaq (zmr (λc hc'=>(hc.zaF c hc').1) (qbc _ qbY) λu hu=>qbd.1 (qaO.1 hu).1) hc.prod
variable{E:List Nat}
theorem Est.tot{cs:List Nat}(hc:NCs cs){C:Nat}(hC:C * 1024<=zdv)(h:Est cs C E ps):bnd ps<=zdv:=
 qaq h.b (qaq (qcl C (zlK hc h.nod h.lt)) hC)
theorem zm7{cs:List Nat}{x:Nat}(h:Lok cs ps):bnd (za0 x ps)<=bnd ps:=by
 rw[<- zoY x ps];exact qaJ _ (h.sub zhF).zC2
theorem Est.size{cs:List Nat}(hc:NCs cs){C:Nat}(hC:C * 1024<=zdv){qs:List (Fc×Nat)}(h:Est cs C E ps)(hq:∀ q∈qs,q∈ps)(hb:bnd qs<=bnd ps):zac (zbX qs).cs * bnd qs<=zdv:=by
 have hl:=h.lok.sub hq;have hB:bnd qs<=zdv:=qaq hb (h.tot hc hC);have hs:=zfb hc hl hB;rw[hs.cs_];have hd:∀ u∈(zbX qs).vs,u ∉ E:=λu hu=>by
  obtain⟨p,hp,hup⟩:=(zgx hc hl hB).1 hu;exact h.out p (hq p hp) u hup
 have hn:((zbX qs).vs ++ E).Nodup:=List.nodup_append.2 ⟨zbi hs.ok.inc,h.nod,λa ha b hb e=>hd a ha (e ▸ hb)⟩;have hp:=zlK hc hn λu hu=>(qbf.1 hu).elim (hs.var u) (h.lt u)
 rw[zlT,zfv]at hp;calc zac (cd cs (zbX qs).vs)* bnd qs<=zac (cd cs (zbX qs).vs)* (C * zac (cd cs E)):=qcl _ (qaq hb h.b)
  _=C * (zac (cd cs (zbX qs).vs)* zac (cd cs E)):=Nat.mul_left_comm _ _ _
  _<=C * 1024:=qcl C hp
  _<=zdv:=hC
theorem zie{x:Nat}:occ ps x=true↔za0 x ps≠[]:=by
 simp_all [za0,occ]
theorem Est.step{cs:List Nat}(hc:NCs cs){C:Nat}(hC:C * 1024<=zdv)(h:Est cs C E ps){x:Nat}(hx:occ ps x=true)(hxE:x ∉ E):
  zb3 (zbX (za0 x ps)).D (x:Int)=some ((zsE (zbX (za0 x ps)) x).D,0)/\Est cs C (x :: E) (zgK (λv=>cs.getD v 0) x ps)/\
   (∀ s,zxd cs s->gL (zgK (λv=>cs.getD v 0) x ps) s=zt1 (cs.getD x 0) λp=>gL ps (upd s x p))/\∀ y,y≠x->occ (zgK (λv=>cs.getD v 0) x ps) y=occ ps y:=by
 obtain⟨p0,hp0,hxp⟩:=zmO.1 hx;have hxl:x<cs.length:=(h.lok.st p0 hp0).var x hxp;have hlw:=h.lok.sub (zfe (x:=x));have hlr:=h.lok.sub (zhF (x:=x));have hbw:=zm7 (x:=x) h.lok;have hB:bnd (za0 x ps)<=zdv:=qaq hbw (h.tot hc hC);have hs:=zfb hc hlw hB;have hsz:=h.size hc hC zfe hbw;have hxv:x∈(zbX (za0 x ps)).vs:=(zgx hc hlw hB).2 ⟨p0,qaO.2 ⟨hp0,qdv hxp⟩,hxp⟩;obtain⟨k,hk⟩:=zkp hxv;obtain⟨g1,g2,g3⟩:=hs.sum hsz hk;have hcx:1<=cs.getD x 0:=by
  grind [qam,Go.Dc.NCs]
 have hmem:∀ u,u∈(zsE (zbX (za0 x ps)) x).vs↔(∃ p∈za0 x ps,u∈p.1.vs)/\u≠x:=λu=>by rw[zrT,zgx hc hlw hB]
 refine⟨g1,⟨hlr.app ⟨λq hq=>?_,λq hq=>?_⟩,qbb.2 ⟨hxE,h.nod⟩,λy hy=>?_,λq hq u hu=>?_,?_⟩,λs hs'=>?_,λy hy=>?_⟩
 .rw[qaD.1 hq]; exact g2
 .rw[qaD.1 hq]; exact qc0 hcx hlw.zC2
 .rcases qav.1 hy with rfl | hy
  .exact hxl
  exact h.lt y hy
 .intro hm;rcases qbf.1 hq with hq | hq
  .rcases qav.1 hm with rfl | hm
   .exact zr2 q hq hu
   exact h.out q (zhF q hq) u hu hm
  rw[qaD.1 hq]at hu;obtain⟨⟨p,hp,hup⟩,hne⟩:=(hmem u).1 hu;rcases qav.1 hm with rfl | hm
  .exact hne rfl
  exact h.out p (zfe p hp) u hup hm
 .show zac ((zeH x ps ++ [(zsE (zbX (za0 x ps)) x,cs.getD x 0 * bnd (za0 x ps))]).map (·.2))<=C * (cs.getD x 0 * zac (cd cs E));rw[qa1,zfv];show bnd (zeH x ps)* (cs.getD x 0 * bnd (za0 x ps)* 1)<=_;have e:bnd (zeH x ps)* (cs.getD x 0 * bnd (za0 x ps)* 1)=cs.getD x 0 * bnd ps:=by rw[<- zoY x ps,qca,Nat.mul_left_comm,qaV (bnd (zeH x ps))]
  rw[e,Nat.mul_left_comm];exact qcl _ h.b
 .show gL (zeH x ps ++ [(zsE (zbX (za0 x ps)) x,cs.getD x 0 * bnd (za0 x ps))]) s=_;rw[zDc];show gL (zeH x ps) s * ((zsE (zbX (za0 x ps)) x).val s * 1)=_;rw[qca,g3 s hs',<- zrO];refine zlY λp hp=>?_
  rw[zuN hc hlw hB (zyi hs' hp),<- zyx x ps (upd s x p),qaV,zyd (ps:=zeH x ps) (s:=s) (t:=upd s x p) λq hq u hu=>(zAg (by rintro rfl; exact zr2 q hq hu)).symm]
 have h1:occ (zgK (λv=>cs.getD v 0) x ps) y=true↔occ ps y=true:=by
  rw[zmO,zmO];constructor
  .rintro⟨q,hq,hyq⟩;rcases qbf.1 hq with hq | hq
   .exact⟨q,zhF q hq,hyq⟩
   rw[qaD.1 hq]at hyq;obtain⟨⟨p,hp,hup⟩,_⟩:=(hmem y).1 hyq;exact⟨p,zfe p hp,hup⟩
  rintro⟨q,hq,hyq⟩;by_cases hxq:x∈q.1.vs
  .exact⟨_,qdh _ (qaD.2 rfl),(hmem y).2 ⟨⟨q,qaO.2 ⟨hq,qdv hxq⟩,hyq⟩,hy⟩⟩
  exact⟨q,qcB _ (qaO.2 ⟨hq,by rw[qdw hxq]; rfl⟩),hyq⟩
 cases h2:occ ps y with
 | true=>exact h1.2 h2
 | false=>
  cases h3:occ (zgK (λv=>cs.getD v 0) x ps) y with
  | false=>rfl
  | true=>rw[h1.1 h3]at h2; cases h2
def ziH(kn:Nat->Bool)(k:Nat->Nat):List (Fc×Nat)->List Nat->List (Nat×Fc)
 | ps,[]=>[(ps.length,zbX ps)]
 | ps,x :: xs=>bif kn x || !occ ps x then ziH kn k ps xs else((za0 x ps).length,zbX (za0 x ps)):: ziH kn k (zgK k x ps) xs
theorem zvs{α:Type}{pre post:List α}{x:α}:zaE (pre ++ x :: post) ((pre.length:Nat):Int)=some x:=by
 unfold zaE;rw[if_pos (qbN _),qay,qaT (qap _),qcf];rfl
def dL(ps:List (Fc×Nat)):List S_api_Factor:=ps.map λp=>p.1.D
theorem zoy(ps:List (Fc×Nat)):(dL ps).length=ps.length:=qak _
theorem zDZ(ps qs:List (Fc×Nat)):dL (ps ++ qs)=dL ps ++ dL qs:=qa1
theorem zuR{cs:List Nat}(hc:NCs cs):∀(n:Nat) (pre:List S_api_Factor) (post:List (Fc×Nat)) (a:Fc) (A:Nat),Stc cs a A->Lok cs post->A * bnd post<=zdv->post.length<n->pre.length+post.length<9223372036854775807 ->
  zaQ (pre ++ dL post) n ((pre.length:Nat):Int) a.D.vars a.D.zah a.D.w=some ((zwe a post).D.vars,(zwe a post).D.zah,(zwe a post).D.w)
 | 0,_,_,_,_,_,_,_,h,_=>absurd h (qaj _)
 | n+1,pre,[],a,A,_,_,_,_,_=>by
  unfold zaQ;rw[show decide (((pre.length:Nat):Int)<(((pre ++ dL []).length:Nat):Int))=false from qdw (by simp[dL]),qdu];rfl
 | n+1,pre,p :: post,a,A,ha,h,hB,hn,hl=>by
  unfold zaQ;have h1:=h.tail.zC2;rw[zjA,<- qaZ]at hB;have hB1:A * p.2<=zdv:=qaq (qaJ _ h1) hB;have hp:=h.st p qai;simp only[qaC]at hn hl;rw[show decide (((pre.length:Nat):Int)<(((pre ++ dL (p :: post)).length:Nat):Int))=true from qdv (by simp only[dL,qaz,qax,qaC,qak]; omega),qdt];rw[show dL (p :: post)=p.1.D :: dL post from rfl,zvs,qaa];show((zc7 a.D p.1.D).bind _)=_;rw[ha.zCe hc hp hB1,qaa,zaf (by omega)];have:=zuR hc n (pre ++ [p.1.D]) post (ztm a p.1) (A * p.2) (ha.mul hc hp hB1) h.tail hB (by omega) (by simp only[qax,qaC,qaU]; omega);rw[qaF,qaN,qax]at this;exact this
theorem zzE{cs:List Nat}(hc:NCs cs)(h:Lok cs ps)(hB:bnd ps<=zdv)(hl:ps.length<9223372036854775807):zbf (dL ps)=some (zbX ps).D:=by
 unfold zbf;rw[show zfp=some zpY.D from rfl,qaa,zoy,zap];have:=zuR hc (ps.length+2) [] ps zpY 1 (znc cs) h (by rw[qa6]; exact hB) (by omega) (by simpa using hl);rw[qaP]at this;show((zaQ (dL ps) (ps.length+2) ((([]:List S_api_Factor).length:Nat):Int) zpY.D.vars zpY.D.zah zpY.D.w).bind _)=_;rw[this];rfl
theorem zAd(x:Nat):∀(n:Nat) (pre post acc0 acc1:List Nat),post.length<n->pre.length+post.length<1000000000->acc0.length+acc1.length<=pre.length ->
  zav (iL (pre ++ post)) (x:Int) n ((pre.length:Nat):Int) (iL acc0) (iL acc1)=some (iL (acc0 ++ post.filter λv=>v == x),iL (acc1 ++ post.filter λv=>!(v == x)))
 | 0,_,_,_,_,h,_,_=>absurd h (qaj _)
 | n+1,pre,[],acc0,acc1,_,_,_=>by
  unfold zav;rw[show decide (((pre.length:Nat):Int)<(((iL (pre ++ [])).length:Nat):Int))=false from qdw (by rw[zai]; simp),qdu];simp
 | n+1,pre,v :: post,acc0,acc1,hn,hl,ha=>by
  unfold zav;simp only[qaC]at hn hl;rw[show decide (((pre.length:Nat):Int)<(((iL (pre ++ v :: post)).length:Nat):Int))=true from qdv (by rw[zai]; simp; omega),qdt,zd7,qaa];have h4:zck (v:Int) (x:Int)=some (v == x):=by
   show some ((v:Int)==(x:Int))=_;congr 1
   rw[qb6];simp only[qdx];omega
  rw[h4,qaa,zaf (by omega)];have hr:=zAd x n (pre ++ [v]) post;cases hv:(v == x)with
  | true=>
   rw[qdt,show zcX 8 (iL acc0) [(v:Int)]=some (iL (acc0 ++ [v]))from by rw[zb8 (by rw[zai]; simp; omega)]; simp[iL],qaa,qaa];have:=hr (acc0 ++ [v]) acc1 (by omega) (by simp; omega) (by simp; omega);rw[qaF,qaN,qax]at this;rw[qbo (p:=λv=>v == x) hv,qbn (p:=λv=>!(v == x)) (by rw[hv]; decide)];rw[qaF,qaN]at this;exact this
  | false=>
   rw[qdu,show zcX 8 (iL acc1) [(v:Int)]=some (iL (acc1 ++ [v]))from by rw[zb8 (by rw[zai]; simp; omega)]; simp[iL],qaa,qaa];have:=hr acc0 (acc1 ++ [v]) (by omega) (by simp; omega) (by simp; omega);rw[qaF,qaN,qax]at this;rw[qbn (p:=λv=>v == x) (by rw[hv]; decide),qbo (p:=λv=>!(v == x)) (by rw[hv]; rfl)];rw[qaF,qaN]at this;exact this
theorem zFh(hf:FcOk f)(x:Nat):zb6 f.D (x:Int)=some (decide (x∈f.vs)):=by
 have hl:f.vs.length<=12:=by rw[hf.len]; exact hf.le
 unfold zb6 zbJ;have:=zAd x (f.vs.length+2) [] f.vs [] [] (by omega) (by simp; omega) (qap _);show((((zav (iL f.vs) (x:Int) (((iL f.vs).length:Int) - 0+2).toNat 0 [] []).bind _)).bind _)=_;rw[zai,zap];rw[qaP]at this;rw[show zav (iL f.vs) (x:Int) (f.vs.length+2) 0 [] []=_ from this,qaa,qaa];congr 1
 rw[qb6,qdC,qdC,zai];constructor
 .intro h;have h1:0<(f.vs.filter λv=>v == x).length:=by simpa using h
  obtain⟨y,hy⟩:=List.exists_mem_of_length_pos h1;obtain⟨h2,h3⟩:=qaO.1 hy;exact(beq_iff_eq.1 h3)▸ h2
 intro h;have:x∈f.vs.filter λv=>v == x:=qaO.2 ⟨h,qdz _⟩
 have:=List.length_pos_of_mem this;simpa using this
theorem zsN{cs:List Nat}(x:Nat):∀(n:Nat) (pre:List S_api_Factor) (post:List (Fc×Nat)) (acc0 acc1:List S_api_Factor),Lok cs post->post.length<n->pre.length+post.length<1000000000->acc0.length+acc1.length<=pre.length ->
  zbO (pre ++ dL post) (x:Int) n ((pre.length:Nat):Int) acc0 acc1=some (acc0 ++ dL (za0 x post),acc1 ++ dL (zeH x post))
 | 0,_,_,_,_,_,h,_,_=>absurd h (qaj _)
 | n+1,pre,[],acc0,acc1,_,_,_,_=>by
  grind [zbO,dL,za0,zeH]
 | n+1,pre,p :: post,acc0,acc1,h,hn,hl,ha=>by
  unfold zbO;simp only[qaC]at hn hl;rw[show decide (((pre.length:Nat):Int)<(((pre ++ dL (p :: post)).length:Nat):Int))=true from qdv (by simp only[dL,qaz,qax,qaC,qak]; omega),qdt];rw[show dL (p :: post)=p.1.D :: dL post from rfl,zvs,qaa];have h4:zaP p.1.D (x:Int)=some (decide (x∈p.1.vs)):=by
   unfold zaP;rw[zFh (h.st p qai).ok x];rfl
  rw[h4,qaa,zaf (by omega)];have hr:=zsN (cs:=cs) x n (pre ++ [p.1.D]) post;cases hv:decide (x∈p.1.vs)with
  | true=>
   rw[qdt,zb8 (by simp; omega),qaa,qaa];have:=hr (acc0 ++ [p.1.D]) acc1 h.tail (by omega) (by simp; omega) (by simp; omega);rw[qaF,qaN,qax]at this;unfold za0 zeH at this ⊢;rw[qbo (p:=λq:Fc×Nat=>decide (x∈q.1.vs)) hv,qbn (p:=λq:Fc×Nat=>!decide (x∈q.1.vs)) (by rw[hv]; decide)];rw[qaF,qaN]at this;exact this
  | false=>
   rw[qdu,zb8 (by simp; omega),qaa,qaa];have:=hr acc0 (acc1 ++ [p.1.D]) h.tail (by omega) (by simp; omega) (by simp; omega);rw[qaF,qaN,qax]at this;unfold za0 zeH at this ⊢;rw[qbn (p:=λq:Fc×Nat=>decide (x∈q.1.vs)) (by rw[hv]; decide),qbo (p:=λq:Fc×Nat=>!decide (x∈q.1.vs)) (by rw[hv]; rfl)];rw[qaF,qaN]at this;exact this
theorem zAT{cs:List Nat}(h:Lok cs ps)(hl:ps.length<1000000)(x:Nat):zdi (dL ps) (x:Int)=some (dL (za0 x ps),dL (zeH x ps)):=by
 unfold zdi;have:=zsN (cs:=cs) x (ps.length+2) [] ps [] [] h (by omega) (by simp; omega) (qap _)
 grind [dL]
theorem zkg(x:Nat)(ps:List (Fc×Nat)):(za0 x ps).length+(zeH x ps).length=ps.length:=by
 induction ps<;>grind [za0,zeH]
theorem zf6{cs:List Nat}(hc:NCs cs){C:Nat}(hC:C * 1024<=zdv){q:S_eliminate_query}{kn:Nat->Bool}:∀(xs:List Nat) (ps:List (Fc×Nat)) (E:List Nat),Est cs C E ps->xs.Nodup->(∀ x∈xs,x ∉ E)->ps.length<1000000 ->
  (∀ x∈xs,∃ kx,zaE q.known (x:Int)=some kx/\kn x=decide (0<=kx))->
  ∃ u,zfL q (dL ps) (iL xs)=some u/\u.map (·.1)=(ziH kn (λv=>cs.getD v 0) ps xs).map λe=>(⟨(e.1:Int),e.2.D⟩:StR)
 | [],ps,E,h,_,_,hl,_=>by
  refine⟨[(⟨((dL ps).length:Int),(zbX ps).D⟩,dL ps)],?_,?_⟩
  .show((zbf (dL ps)).bind _)=_;rw[zzE hc h.lok (h.tot hc hC) (by omega),qaa]
  .simp[ziH,zoy]
 | x :: xs,ps,E,h,hn,hE,hl,hk=>by
  obtain⟨n1,n2⟩:=qbb.1 hn;obtain⟨kx,k1,k2⟩:=hk x qai;have hE':∀ y∈xs,y ∉ E:=λy hy=>hE y (qag _ hy)
  have hk':∀ y∈xs,∃ kx,zaE q.known (y:Int)=some kx/\kn y=decide (0<=kx):=λy hy=>hk y (qag _ hy)
  rw[show iL (x :: xs)=(x:Int):: iL xs from rfl];unfold zfL ziH;rw[k1,qaa,<- k2];cases hkn:kn x with
  | true=>
   rw[qdt,Bool.true_or,qdt];exact zf6 hc hC xs ps E h n2 hE' hl hk'
  | false=>
   rw[qdu,qdk,zAT h.lok hl x,qaa];have hlw:(dL (za0 x ps)).length=(za0 x ps).length:=zoy _;cases ho:occ ps x with
   | false=>
    have hw:za0 x ps=[]:=by
     grind [zie]
    have e0:(((dL (za0 x ps)).length:Int)== 0)=true:=by rw[hw]; rfl
    simp only[e0,qdt,qcd];exact zf6 hc hC xs ps E h n2 hE' hl hk'
   | true=>
    have hw:za0 x ps≠[]:=zie.1 ho;have hwl:0<(za0 x ps).length:=List.length_pos_iff.2 hw;have hpl:=zkg x ps;have e0:(((dL (za0 x ps)).length:Int)== 0)=false:=by
     simp_all
    obtain⟨s1,s2,s3,s4⟩:=h.step hc hC ho (hE x qai);have hB:bnd (za0 x ps)<=zdv:=qaq (zm7 h.lok) (h.tot hc hC)
    obtain⟨u,u1,u2⟩:=zf6 hc hC (kn:=kn) (q:=q) xs (zgK (λv=>cs.getD v 0) x ps) (x :: E) s2 n2 (λy hy hm=>by
     simp_all) (by unfold zgK; rw[qax,qct]; omega) hk'
    refine⟨(⟨((za0 x ps).length:Int),(zbX (za0 x ps)).D⟩,dL ps):: u,?_,?_⟩
    .simp only[e0,qdu];rw[zzE hc (h.lok.sub zfe) hB (by omega),qaa,s1,qaa,zb8 (by rw[zoy]; simp; omega),qaa]
     grind [dL,zgK]
    simp_all
def knE(e:List Int)(v:Nat):Bool:=decide (0<=e.getD v (-1))
def veE(e:List Int)(v:Nat):Nat:=(e.getD v (-1)).toNat
variable{e:List Int}
theorem EvOk.ve{cs:List Nat}(h:EvOk cs e)(hv:v<cs.length)(hk:knE e v=true):veE e v<cs.getD v 0/\e.getD v (-1)=(veE e v:Int):=by
 have h1:=h.hi v hv;have h2:=of_decide_eq_true hk;unfold veE;omega
def ztW(e:List Int)(i:Nat)(f:Fc):Fc:=bif knE e i then(match pos f.vs i with | some k=>fixF f i k (veE e i)| none=>f)else f
def ziw(e:List Int):Nat->Nat->Fc->Fc
 | 0,_,f=>f
 | m+1,i,f=>ziw e m (i+1) (ztW e i f)
theorem zrL{cs:List Nat}(hf:Stc cs f M):Stc cs (ztW e i f) M:=by
 unfold ztW;cases knE e i with
 | false=>exact hf
 | true=>
  rw[qdt];cases hp:pos f.vs i with
  | none=>exact hf
  | some k=>exact hf.fix hp _
theorem zlO{cs:List Nat}{e:List Int}{M:Nat}:∀(m i:Nat) {f:Fc},Stc cs f M->Stc cs (ziw e m i f) M
 | 0,_,_,h=>h
 | m+1,i,_,h=>zlO m (i+1) (zrL h)
theorem zEL{g:Nat}{ns:List NN}{e:List Int}(hl:e.length=ns.length)(hn:ns.length<=8):∀(n i:Nat),za2 e (zbZ g ns) n (i:Int)=some (.go ())->∀ v,i<=v->v<ns.length -> -1<=e.getD v (-1)/\e.getD v (-1)<((ns.map (·.c)).getD v 0:Nat)
 | 0,_,h,_,_,_=>by cases h
 | n+1,i,h,v,hv,hvl=>by
  have hi:i<e.length:=by omega
  have hin:i<ns.length:=by omega
  have hx:e[i]=e.getD i (-1):=by rw[qal,qac hi]; rfl
  unfold za2 at h;rw[zaz,qdv hi,qdt,zaA hi,qaa,hx]at h;by_cases c1:e.getD i (-1)< -1
  .rw[qdv c1,qdt,qaa,qdt]at h;cases h
  rw[qdw c1,qdu,show zaE (zbZ g ns).nodes (i:Int)=some (nd ns[i])from zdc hin]at h;simp only[qaa,show(nd ns[i]).zaF=((ns[i].c:Nat):Int)from rfl]at h;have hcc:(ns.map (·.c)).getD i 0=ns[i].c:=by rw[qal,qbg,qac hin]; rfl
  by_cases c2:((ns[i].c:Nat):Int)<=e.getD i (-1)
  .rw[qdv c2,qdt]at h;cases h
  rw[qdw c2,qdu,zaf (by omega)]at h;by_cases ev:v=i
  .subst ev;rw[hcc];omega
  exact zEL hl hn n (i+1) h v (by omega) hvl
theorem zEM{net:S_api_Net}{e:List Int}:∀(n:Nat) (i:Int) (r:Bool),za2 e net n i=some (.ret r)->r=false
 | 0,_,_,h=>by cases h
 | n+1,i,r,h=>by
  unfold za2 at h;cases hd:decide (i<(e.length:Int))with
  | false=>rw[hd,qdu]at h; cases h
  | true=>
   rw[hd,qdt]at h;obtain⟨b,_,h⟩:=bind_some h;cases b with
   | true=>rw[qdt]at h; cases h; rfl
   | false=>rw[qdu]at h; exact zEM n _ r h
theorem zEt(h:RightN g ns)(hb:zce (zbZ g ns) e=some true):EvOk (ns.map (·.c)) e:=by
 have hnl:(zbZ g ns).nodes.length=ns.length:=by simp[zbZ]
 unfold zce at hb;rw[hnl]at hb;by_cases hl:e.length=ns.length
 .rw[show(((e.length:Nat):Int)==((ns.length:Nat):Int))=true by rw[hl]; simp,qdt]at hb;obtain⟨o,ho,hb⟩:=bind_some hb;cases o with
  | go u=>
   have:=zEL (g:=g) hl h.n2 _ 0 ho;exact⟨by simpa using hl,λv hv=>(this v (qar _) (by simpa using hv)).1,λv hv=>(this v (qar _) (by simpa using hv)).2⟩
  | ret r=>
   have hr:=zEM _ _ _ ho;cases hb;cases hr
 rw[show(((e.length:Nat):Int)==((ns.length:Nat):Int))=false by rw[qdy]; omega,qdu]at hb;cases hb
theorem zz2{cs:List Nat}{q:S_eliminate_query}{e:List Int}(hq:q.known=e)(he:EvOk cs e)(hc:cs.length<=8){M:Nat}:∀(n m i:Nat) {f:Fc},Stc cs f M->i+m=cs.length->m<n ->
  zay q n (i:Int) f.D.vars f.D.zah f.D.w=some (.go ((ziw e m i f).D.vars,(ziw e m i f).D.zah,(ziw e m i f).D.w))
 | 0,_,_,_,_,_,h=>absurd h (qaj _)
 | n+1,0,i,f,hf,hi,_=>by
  unfold zay;rw[hq,he.len,show decide ((i:Int)<((cs.length:Nat):Int))=false from qdw (by omega),qdu];rfl
 | n+1,m+1,i,f,hf,hi,hn=>by
  unfold zay;have hil:i<e.length:=by rw[he.len]; omega
  have hx:e[i]=e.getD i (-1):=by rw[qal,qac hil]; rfl
  rw[hq,show decide ((i:Int)<((e.length:Nat):Int))=true from qdv (by omega),qdt,zaA hil,qaa,hx];have ih:=zz2 hq he hc n m (i+1) (zrL (e:=e) (i:=i) hf) (by omega) (by omega);unfold ziw;cases hk:knE e i with
  | false=>
   have h0:e.getD i (-1)<0:=by have:=of_decide_eq_false hk; omega
   have e1:ztW e i f=f:=by unfold ztW; rw[hk,qdu]
   rw[e1]at ih ⊢;rw[qdv h0,qdt,qaa,qdt,qaa,zaf (by omega)];exact ih
  | true=>
   obtain⟨h1,h2⟩:=he.ve (by omega) hk;have h0:¬ e.getD i (-1)<0:=by omega
   rw[qdw h0,qdu];rw[show zb6 (S_api_Factor.mk f.D.vars f.D.zah f.D.w) (i:Int)=some (decide (i∈f.vs))from zFh hf.ok i,qaa,qaa];cases hp:pos f.vs i with
   | none=>
    have hm:i ∉ f.vs:=λhm=>by obtain⟨k,hk⟩:=zkp hm; rw[hp]at hk; cases hk
    have e1:ztW e i f=f:=by unfold ztW; rw[hk,qdt,hp]
    rw[e1]at ih ⊢;rw[qdw hm,qcd,qdt,qaa,zaf (by omega)];exact ih
   | some k=>
    have hm:i∈f.vs:=by obtain⟨a,b⟩:=zdE hp; rw[<- b]; exact qam a
    have e1:ztW e i f=fixF f i k (veE e i):=by unfold ztW; rw[hk,qdt,hp]
    rw[e1]at ih ⊢;rw[qdv hm,qbl,qdu,h2];rw[show zdf (S_api_Factor.mk f.D.vars f.D.zah f.D.w) (i:Int) (veE e i:Int)=some ((fixF f i k (veE e i)).D,0)from hf.zCH hp h1,qaa];rw[show(((fixF f i k (veE e i)).D,(0:Int)).2 == 0)=true from rfl,qdt,qaa,zaf (by omega)];exact ih
def zB3(ns:List NN)(e:List Int)(v:Nat):Fc:=ziw e ns.length 0 (zig (ns.map (·.c)) v (ns.getD v ztV))
def zd3(ns:List NN)(e:List Int)(vs:List Nat):List (Fc×Nat):=vs.map λv=>(zB3 ns e v,60)
theorem zra(h:RightN g ns)(hv:v<ns.length):Stc (ns.map (·.c)) (zB3 ns e v) 60:=zlO _ _ (h.stc hv)
theorem zuk{g:Nat}{ns:List NN}(h:RightN g ns){q:S_eliminate_query}{e:List Int}(hq:q.known=e)(he:EvOk (ns.map (·.c)) e){m:Nat}(hm:m<18446744073709551616):∀(n i:Nat) (acc:List (Fc×Nat)),i<=ns.length->ns.length - i<n->acc.length<=i ->
  zaI (zxH ns,0) (m:Int) q n (i:Int) (dL acc)=some (.go (dL (acc ++ zd3 ns e ((List.range' i (ns.length - i)).filter λv=>m.testBit v))))
 | 0,_,_,_,h,_=>absurd h (qaj _)
 | n+1,i,acc,hi,hn,ha=>by
  have hn8:=h.n2;have hfl:(zxH ns).length=ns.length:=by simp[zxH]
  unfold zaI;simp only[];rw[hfl,zaz];rcases qaY i ns.length with hlt | hge
  .have hget:(zxH ns)[i]'(by rw[hfl]; exact hlt)=(zig (ns.map (·.c)) i (ns.getD i ztV)).D:=by simp[zxH]
   rw[qdv hlt,qdt,zaA (by rw[hfl]; exact hlt),qaa,hget];obtain⟨q7,s1,s2⟩:=zFw hm (v:=i) (by omega);rw[s1,qaa,s2];have hr:List.range' i (ns.length - i)=i :: List.range' (i+1) (ns.length - (i+1)):=by
    rw[show ns.length - i=(ns.length - (i+1))+1 by omega];exact qbW
   rw[hr];have ih:=zuk h hq he hm n (i+1);cases hb:m.testBit i with
   | false=>
    rw[show(((false:Bool).toNat:Int)== 0)=true from rfl,qdt,qaa,zaf (by omega),qbn (p:=λv=>m.testBit v) (by rw[hb]; decide)];exact ih acc hlt (by omega) (by omega)
   | true=>
    rw[show(((true:Bool).toNat:Int)== 0)=false from rfl,qdu,hq,he.len,qak,zap];have hs:=zz2 hq he (by simpa using hn8) (ns.length+2) ns.length 0 (h.stc hlt) (by simp) (by omega);rw[show zay q (ns.length+2) 0 (zig (ns.map (·.c)) i (ns.getD i ztV)).D.vars (zig (ns.map (·.c)) i (ns.getD i ztV)).D.zah (zig (ns.map (·.c)) i (ns.getD i ztV)).D.w=_ from hs];simp only[qaa];rw[zb8 (by rw[zoy]; simp; omega),qaa,qaa,zaf (by omega),qbo (p:=λv=>m.testBit v) hb];have:=ih (acc ++ [(zB3 ns e i,60)]) hlt (by omega) (by simp; omega);rw[qaF,zDZ acc]at this;exact this
  have:i=ns.length:=by omega
  subst this;rw[qdw (qcc _),qdu,qcf];simp[zd3]
theorem zFf(h:RightN g ns){q:S_eliminate_query}(hn:q.net=zbZ g ns)(hq:q.known=e)(he:EvOk (ns.map (·.c)) e){m:Nat}(hm:m<18446744073709551616):
  zbj q (m:Int)=some (dL (zd3 ns e ((List.range ns.length).filter λv=>m.testBit v)),0):=by
 have hfl:(zxH ns).length=ns.length:=by simp[zxH]
 unfold zbj;rw[hn,ztg h,qaa];simp only[];rw[show((0:Int)== 0)=true from rfl,qdt,hfl,zap];have:=zuk h hq he hm (ns.length+2) 0 [] (qar _) (by omega) (qap _);rw[show zaI (zxH ns,0) (m:Int) q (ns.length+2) 0 []=_ from this,qaa,qaP,qde,<- qcV]
theorem zry{x:Nat}:(a ||| 2 ^ x).testBit j=(a.testBit j || decide (x=j)):=by rw[qcN,qcI]
theorem zzp{x:Nat}(ha:a<18446744073709551616)(hx:x<64):a ||| 2 ^ x<18446744073709551616:=qbZ (n:=64) ha (qbh (by decide) hx)
structure OrdOk (n v:Nat) (xs:List Nat):Prop where
 nod:xs.Nodup
 lt:∀ x∈xs,x<n
 ne:∀ x∈xs,x≠v
theorem zA0{n v:Nat}{q:S_eliminate_query}{order:List Int}(hq:q.net.nodes.length=n)(hn:n<=8)(hv:v<n)(hol:order.length<4611686018427387904):∀(n1 n2 i:Nat) (xs:List Nat) (M1 M2:Nat),order.take i=iL xs->OrdOk n v xs->i<=order.length->order.length - i<n1->order.length - i<n2 ->
  M1<18446744073709551616->M2<18446744073709551616->(∀ j,M1.testBit j=(decide (j∈xs)|| decide (v=j)))->(∀ j,M2.testBit j=decide (j∈xs))->
  (zao order q n1 (M1:Int) (i:Int)=some (.go ())/\zaY order (n:Int) (v:Int) n2 (M2:Int) (i:Int)=some (.go ())/\∃ ys,order=iL ys/\OrdOk n v ys)\/
  (zao order q n1 (M1:Int) (i:Int)=some (.ret false)/\zaY order (n:Int) (v:Int) n2 (M2:Int) (i:Int)=some (.ret false))
 | 0,_,_,_,_,_,_,_,_,h,_,_,_,_,_=>absurd h (qaj _)
 | _,0,_,_,_,_,_,_,_,_,h,_,_,_,_=>absurd h (qaj _)
 | n1+1,n2+1,i,xs,M1,M2,ht,ho,hi,h1,h2,m1,m2,b1,b2=>by
  unfold zao zaY;rw[zaz,hq];by_cases hlt:i<order.length
  .rw[qdv hlt,qdt,qdt,zaA hlt,qaa,qaa];obtain⟨x,hx⟩:∃ x,order[i]=x:=⟨_,rfl⟩;rw[hx];by_cases c1:x<0
   .simp_all
   by_cases c2:(n:Int)<=x
   .simp_all
   obtain⟨y,rfl⟩:∃ y:Nat,x=(y:Int):=⟨x.toNat,by omega⟩;have hy:y<n:=by omega
   obtain⟨q9,s1,s2⟩:=zFw m1 (v:=y) (by omega);rw[qdw c1,qdu,qdu,qdw c2,qdu,qdu,s1,qaa,s2,b1,zvE m2 (by omega),b2];by_cases c3:y=v
   .subst c3;rw[show(((y:Nat):Int)==(y:Int))=true from qdz _,qdt,qdv (rfl:y=y),qdp];exact .inr ⟨rfl,rfl⟩
   rw[show(((y:Nat):Int)==(v:Int))=false from by rw[qdy]; omega,qdu,show decide (v=y)=false from qdw (λe=>c3 e.symm),Bool.or_false];by_cases c4:y∈xs
   .rw[qdv c4];exact .inr ⟨rfl,rfl⟩
   rw[qdw c4];rw[show((((false:Bool).toNat:Nat):Int)== 1)=false from rfl];simp only[qaa,qdu];have hy64:y<64:=by omega
   have hp:2 ^ y<18446744073709551616:=(qbh (by decide) hy64:2 ^ y<2 ^ 64);rw[zbH (by omega),zt7 hy64,qaa,qaa,orU m1 hp,orU m2 hp,zaf (by omega)];refine zA0 hq hn hv hol n1 n2 (i+1) (xs ++ [y]) (M1 ||| 2 ^ y) (M2 ||| 2 ^ y) ?_ ⟨?_,?_,?_⟩ hlt (by omega) (by omega) (zzp m1 hy64) (zzp m2 hy64) (λj=>?_) λj=>?_
   .rw[List.take_add_one,ht,qac hlt,hx];simp[iL]
   .exact List.nodup_append.2 ⟨ho.nod,qc7 _ y,λa ha b hb e=>c4 (by rw[qaD.1 hb]at e; exact e ▸ ha)⟩
   .intro a ha;rcases qbf.1 ha with ha | ha
    .exact ho.lt a ha
    rw[qaD.1 ha]; exact hy
   .intro a ha;rcases qbf.1 ha with ha | ha
    .exact ho.ne a ha
    rw[qaD.1 ha]; exact c3
   .rw[zry,b1,qb6];simp only[qbP,decide_eq_true_eq,qbf,qaD];constructor
    .rintro((h | h)| h)
     .exact .inl (.inl h)
     .exact .inr h
     exact .inl (.inr h.symm)
    rintro((h | h)| h)
    .exact .inl (.inl h)
    .exact .inr h.symm
    exact .inl (.inr h)
   rw[zry,b2,qb6];simp only[qbP,decide_eq_true_eq,qbf,qaD];constructor
   .rintro(h | h)
    .exact .inl h
    exact .inr h.symm
   rintro(h | h)
   .exact .inl h
   exact .inr h.symm
  grind
theorem zFO{q:S_eliminate_query}(hq:q.net.nodes.length=n)(hn:n<=8)(hv:v<n)(hqv:q.node=(v:Int)):∃ b:Bool,zaw q order=some b/\(b=true->∃ xs,order=iL xs/\OrdOk n v xs/\xs.length=n - 1):=by
 unfold zaw;rw[hq,zed (n:=(n:Int) - 1) (by omega) (by omega)];by_cases hl:(order.length:Int)=(n:Int) - 1
 .rw[show((order.length:Int)==(n:Int) - 1)=true from beq_iff_eq.2 hl,qdt,hqv,zt7 (by omega),qaa,zap];have hp:2 ^ v<18446744073709551616:=(qbh (by decide) (show v<64 by omega):2 ^ v<2 ^ 64);rcases zA0 (q:=q) (order:=order) hq hn hv (by omega) (order.length+2) (order.length+2) 0 [] (2 ^ v) 0 rfl ⟨.nil,(λ_ h=>nomatch h),(λ_ h=>nomatch h)⟩ (qar _) (by omega) (by omega) hp (by decide) (λj=>by simp[qcI]) (λj=>by simp)with⟨g1,_,ys,g3,g4⟩| ⟨g1,_⟩
  .rw[show zao order q (order.length+2) ((2 ^ v:Nat):Int) 0=_ from g1,qaa]
   grind [zai]
  simp_all
 rw[show((order.length:Int)==(n:Int) - 1)=false from by rw[qdy]; exact hl,qdu]
 simp_all
theorem zyk{q:S_eliminate_query}(hq:q.net.nodes.length=n)(hn:n<=8)(hv:v<n)(hqv:q.node=(v:Int))(hol:order.length<4611686018427387904){b:Bool}(hb:zaw q order=some b):zcx order (n:Int) (v:Int)=some b:=by
 unfold zaw at hb;unfold zcx;rw[hq,zed (n:=(n:Int) - 1) (by omega) (by omega)]at hb;have hp:2 ^ v<18446744073709551616:=(qbh (by decide) (show v<64 by omega):2 ^ v<2 ^ 64);rw[zed (n:=(n:Int) - 1) (by omega) (by omega),zap,show decide (0<=(v:Int))=true from qdv (by omega)];rcases zA0 (q:=q) (order:=order) hq hn hv hol (order.length+2) (order.length+2) 0 [] (2 ^ v) 0 rfl ⟨.nil,(λ_ h=>nomatch h),(λ_ h=>nomatch h)⟩ (qar _) (by omega) (by omega) hp (by decide) (λj=>by simp[qcI]) (λj=>by simp)with⟨g1,g2,_⟩| ⟨g1,g2⟩
 .rw[show zaY order (n:Int) (v:Int) (order.length+2) 0 0=_ from g2,qaa];simp only[qdt];cases hl:((order.length:Int)==(n:Int) - 1)with
  | false=>rw[hl,qdu]at hb; exact hb
  | true=>
   rw[hl,qdt,hqv,zt7 (by omega),qaa,zap]at hb;rw[show zao order q (order.length+2) ((2 ^ v:Nat):Int) 0=_ from g1,qaa]at hb;exact hb
 rw[show zaY order (n:Int) (v:Int) (order.length+2) 0 0=_ from g2,qaa];cases hl:((order.length:Int)==(n:Int) - 1)with
 | false=>rw[hl,qdu]at hb; exact hb
 | true=>
  rw[hl,qdt,hqv,zt7 (by omega),qaa,zap]at hb;rw[show zao order q (order.length+2) ((2 ^ v:Nat):Int) 0=_ from g1,qaa]at hb;exact hb
abbrev noQ:S_eliminate_query:=⟨⟨0,[]⟩,[],0⟩
theorem zDl(hb:Bnd d)(e:List Int)(v:Int)(hol:order.length<4611686018427387904):
  (∃ err:Int,err≠0/\zbI d e v=some (noQ,err)/\zcc d e v order=some err)\/
  (∃ g ns,∃ v':Nat,∃ b:Bool,d=zbZ g ns/\RightN g ns/\v=(v':Int)/\v'<ns.length/\EvOk (ns.map (·.c)) e/\zbI d e v=some (⟨d,e,v⟩,0)/\zaw ⟨d,e,v⟩ order=some b/\zcc d e v order=some (bif b then 0 else 2)/\
   (b=true->∃ xs,order=iL xs/\OrdOk ns.length v' xs/\xs.length=ns.length - 1)):=by
 have hchk:zdu d=some (zjk,50)/\zc1 d=some false\/∃ g ns,d=zbZ g ns/\RightN g ns/\zc1 d=some true:=by
  rcases zvz hb with⟨⟨g,ns,rfl,hr⟩,h2⟩| ⟨h1,h2⟩
  .exact .inr ⟨g,ns,rfl,hr,h2⟩
  rcases zCK hb with h | ⟨g,ns,rfl,hr⟩
  .exact .inl ⟨h,h2⟩
  exact absurd ⟨g,ns,rfl,hr⟩ h1
 rcases hchk with⟨h,h2⟩| ⟨g,ns,rfl,hr,h2⟩
 .refine .inl ⟨50,by decide,?_,?_⟩
  .have k1:zbm d e=some 50:=by unfold zbm; rw[h,qaa]; simp only[]; rw[show((50:Int)== 0)=false from rfl,qdu]
   unfold zbI;rw[k1,qaa,show((50:Int)== 0)=false from rfl,qdu]
  unfold zcc zfi;rw[h2,qaa,qdu,qaa,show((50:Int)== 0)=false from rfl,qdu]
 obtain⟨b0,e1,e2⟩:=zAV hr e;have hnl:(zbZ g ns).nodes.length=ns.length:=by simp[zbZ]
 have hn8:=hr.n2;unfold zbI zcc zfi;rw[e2,h2,qaa,qaa,qdt,e1,qaa,hnl];cases b0 with
 | false=>exact .inl ⟨2,by decide,rfl,rfl⟩
 | true=>
  have he:=zEt hr e1;simp only[qdt,qaa,show((0:Int)== 0)=true from rfl];by_cases c1:v<0
  .rw[qdv c1];exact .inl ⟨2,by decide,rfl,rfl⟩
  by_cases c2:(ns.length:Int)<=v
  .rw[qdw c1,qdv c2];exact .inl ⟨2,by decide,rfl,rfl⟩
  obtain⟨v',rfl⟩:∃ v':Nat,v=(v':Int):=⟨v.toNat,by omega⟩;rw[qdw c1,qdw c2];have hv:v'<ns.length:=by omega
  obtain⟨b,o1,o2⟩:=zFO (q:=⟨zbZ g ns,e,(v':Int)⟩) (order:=order) hnl hn8 hv rfl;have o3:=zyk (q:=⟨zbZ g ns,e,(v':Int)⟩) (order:=order) hnl hn8 hv rfl hol o1;refine .inr ⟨g,ns,v',b,rfl,hr,rfl,hv,he,rfl,o1,?_,o2⟩;simp only[qdu];rw[o3,qaa,qaa];cases b<;>rfl
theorem zyf(a n:Nat):zac (List.replicate n a)=a ^ n:=by
 induction n with
 | zero=>rfl
 | succ n ih=>rw[qaS]; show a * zac (List.replicate n a)=_; rw[ih,qdg,qaV]
theorem zkw(h:RightN g ns){vs:List Nat}(hv:∀ v∈vs,v<ns.length)(hl:vs.length<=8):Est (ns.map (·.c)) (60 ^ 8) [] (zd3 ns e vs):=by
 refine⟨⟨λp hp=>?_,λp hp=>?_⟩,.nil,(λ_ hx=>nomatch hx),(λ_ _ _ _ hx=>nomatch hx),?_⟩
 .obtain⟨v,hm,rfl⟩:=qaB.1 hp;exact zra h (hv v hm)
 .obtain⟨v,hm,rfl⟩:=qaB.1 hp;show 1<=60;decide
 have e1:(zd3 ns e vs).map (·.2)=List.replicate vs.length 60:=by
  unfold zd3;rw[qcQ];exact List.map_const' ..
 show zac ((zd3 ns e vs).map (·.2))<=_;rw[e1,zyf];exact qaq (qbs (by decide) hl) (qdr (qca _).symm)
theorem c8:60 ^ 8 * 1024<=zdv:=by decide
def zqT:List (Nat×Fc)->Nat->Nat->Nat×Nat
 | [],a,b=>(a,b)
 | x :: r,a,b=>zqT r (a+(x.1 - 1)* x.2.ws.length) (max b x.2.ws.length)
theorem zwS:∀(L:List (Nat×Fc)) (u:List StI) (a b:Nat),u.map (·.1)=L.map (λe=>(⟨(e.1:Int),e.2.D⟩:StR))->(∀ x∈L,1<=x.1/\x.1<=1000/\x.2.ws.length<=1024)->a+1024000 * L.length<=4611686018427387904 ->
  zbn u (a:Int) (b:Int)=some (((zqT L a b).1:Int),((zqT L a b).2:Int))
 | [],u,a,b,hu,_,_=>by
  cases u with
  | nil=>rfl
  | cons y u=>cases hu
 | x :: L,u,a,b,hu,hb,ha=>by
  cases u with
  | nil=>cases hu
  | cons y u=>
   simp only[qaz,qch]at hu;obtain⟨hy,hu⟩:=hu;obtain⟨h1,h2,h3⟩:=hb x qai;simp only[qaC]at ha;unfold zbn;rw[hy];have hw:x.2.D.w.length=x.2.ws.length:=zai _;have hm:(x.1 - 1)* x.2.ws.length<=999 * 1024:=qa2 (by omega) h3;simp only[hw]
   rw[zed (n:=(x.1:Int) - 1) (by omega) (by omega),show((x.1:Int) - 1)* ((x.2.ws.length:Nat):Int)=(((x.1 - 1)* x.2.ws.length:Nat):Int)from by rw[qaL]; congr 1; omega,zar (by omega),
    show(a:Int)+(((x.1 - 1)* x.2.ws.length:Nat):Int)=((a+(x.1 - 1)* x.2.ws.length:Nat):Int)from by rw[qby],zar (by omega),
    show zhs (b:Int) ((x.2.ws.length:Nat):Int)=((max b x.2.ws.length:Nat):Int)from by unfold zhs; split<;>omega]
   exact zwS L u _ _ hu (λz hz=>hb z (qag _ hz)) (by omega)
theorem zkj{kn:Nat->Bool}{k:Nat->Nat}:∀(xs:List Nat) (ps:List (Fc×Nat)),(ziH kn k ps xs).length<=xs.length+1
 | [],ps=>qap _
 | x :: xs,ps=>by
  unfold ziH;cases kn x || !occ ps x with
  | true=>rw[qdt]; exact Nat.le_succ_of_le (zkj xs ps)
  | false=>rw[qdu]; exact Nat.succ_le_succ (zkj xs _)
theorem zkG{cs:List Nat}(hc:NCs cs){C:Nat}(hC:C * 1024<=zdv){kn:Nat->Bool}:∀(xs:List Nat) (ps:List (Fc×Nat)) (E:List Nat),Est cs C E ps->xs.Nodup->(∀ x∈xs,x ∉ E)->1<=ps.length ->
  ∀ y∈ziH kn (λv=>cs.getD v 0) ps xs,1<=y.1/\y.1<=ps.length/\y.2.ws.length<=1024
 | [],ps,E,h,_,_,hp,y,hy=>by
  rw[qaD.1 hy];have hs:=zfb hc h.lok (h.tot hc hC);refine⟨hp,qap _,?_⟩;show(zbX ps).ws.length<=1024;rw[hs.ok.size,hs.cs_];exact(hc.vars hs.ok.inc hs.var).1
 | x :: xs,ps,E,h,hn,hE,hp,y,hy=>by
  obtain⟨n1,n2⟩:=qbb.1 hn;have hE':∀ y∈xs,y ∉ E:=λy hy=>hE y (qag _ hy)
  unfold ziH at hy;cases hb:(kn x || !occ ps x)with
  | true=>rw[hb,qdt]at hy; exact zkG hc hC xs ps E h n2 hE' hp y hy
  | false=>
   rw[hb,qdu]at hy;have ho:occ ps x=true:=by cases h1:occ ps x<;>rw[h1]at hb<;>first | rfl | (cases h2:kn x<;>rw[h2]at hb<;>cases hb)
   obtain⟨s1,s2,s3,s4⟩:=h.step hc hC ho (hE x qai);have hpl:=zkg x ps;have hwl:0<(za0 x ps).length:=List.length_pos_iff.2 (zie.1 ho);rcases qav.1 hy with rfl | hy
   .have hB:bnd (za0 x ps)<=zdv:=qaq (zm7 h.lok) (h.tot hc hC);have hs:=zfb hc (h.lok.sub (zfe (x:=x))) hB;refine⟨hwl,by omega,?_⟩;show(zbX (za0 x ps)).ws.length<=1024;rw[hs.ok.size,hs.cs_];exact(hc.vars hs.ok.inc hs.var).1
   have hel:(zgK (λv=>cs.getD v 0) x ps).length=(zeH x ps).length+1:=by unfold zgK; rw[qax,qct]
   obtain⟨g1,g2,g3⟩:=zkG hc hC xs (zgK (λv=>cs.getD v 0) x ps) (x :: E) s2 n2 (λz hz hm=>by
    rcases qav.1 hm with rfl | hm
    .exact n1 hz
    exact hE' z hz hm) (by omega) y hy
   exact⟨g1,by omega,g3⟩
def zxp(ns:List NN)(e:List Int)(vs xs:List Nat):List (Nat×Fc):=ziH (knE e) (λv=>(ns.map (·.c)).getD v 0) (zd3 ns e vs) xs
theorem zEg{cs:List Nat}(he:EvOk cs e){x:Nat}(hx:x<cs.length):∃ kx,zaE e (x:Int)=some kx/\knE e x=decide (0<=kx):=by
 have hl:x<e.length:=by rw[he.len]; exact hx
 refine⟨e[x],zaA hl,?_⟩;unfold knE;rw[qal,qac hl];rfl
theorem zy6(hn:n<=8):∃ m:Nat,m<18446744073709551616/\IntKind.u64.wrap (((2 ^ n:Nat):Int) - 1)=(m:Int)/\(List.range n).filter (λv=>m.testBit v)=List.range n:=by
 have h1:1<=2 ^ n:=Nat.one_le_two_pow;have h2:2 ^ n<=2 ^ 8:=qbs (by decide) hn;refine⟨2 ^ n - 1,by omega,?_,?_⟩
 .rw[show((2 ^ n:Nat):Int) - 1=((2 ^ n - 1:Nat):Int)from by omega];exact zbH (by omega)
 refine qc1.2 λv hv=>?_
 rw[Nat.testBit_two_pow_sub_one];exact qdv (qbd.1 hv)
theorem zuP(h:RightN g ns)(he:EvOk (ns.map (·.c)) e){vs:List Nat}{v:Nat}(hvs:∀ v∈vs,v<ns.length)(hl:vs.length<=8)(ho:OrdOk ns.length v xs)(hxl:xs.length<=8){q:S_eliminate_query}(hq:q.known=e):
  ∃ u,zor q (dL (zd3 ns e vs)) (iL xs)=some u/\u.map (·.1)=(zxp ns e vs xs).map λy=>(⟨(y.1:Int),y.2.D⟩:StR):=by
 have hfl:(zd3 ns e vs).length=vs.length:=qak _;obtain⟨u,u1,u2⟩:=zf6 (q:=q) (kn:=knE e) h.ncs c8 xs (zd3 ns e vs) [] (zkw h hvs hl) ho.nod (λ_ _ hm=>nomatch hm) (by rw[hfl]; omega) (λx hx=>by rw[hq]; exact zEg he (by simpa using ho.lt x hx));refine⟨u,?_,u2⟩;unfold zor;rw[show zeT (iL xs)=some ()from by unfold zeT; rw[if_pos (by rw[zai]; omega)],qaa];exact u1
theorem zCl(h:RightN g ns)(he:EvOk (ns.map (·.c)) e)(ho:OrdOk ns.length v xs)(hxl:xs.length<=8)(hask:zbI (zbZ g ns) e (v:Int)=some (⟨zbZ g ns,e,(v:Int)⟩,0))(hord:zaw ⟨zbZ g ns,e,(v:Int)⟩ (iL xs)=some true):
  zbk (zbZ g ns) e (v:Int) (iL xs)=some ((((zqT (zxp ns e (List.range ns.length) xs) 0 0).1:Nat):Int),(((zqT (zxp ns e (List.range ns.length) xs) 0 0).2:Nat):Int),0):=by
 have hn8:=h.n2;have hn1:=h.n1;have hnl:(zbZ g ns).nodes.length=ns.length:=by simp[zbZ]
 obtain⟨m,m1,m2,m3⟩:=zy6 hn8;obtain⟨u,u1,u2⟩:=zuP (v:=v) h he (vs:=List.range ns.length) (λv hv=>qbd.1 hv) (by simpa using hn8) ho hxl (q:=⟨zbZ g ns,e,(v:Int)⟩) rfl;unfold zbk;rw[hask,qaa];simp only[show((0:Int)== 0)=true from rfl,qdt];rw[hord,qaa,qdt,hnl,zt7 (by omega),qaa,m2,zFf h rfl rfl he m1,m3,qaa];simp only[show((0:Int)== 0)=true from rfl,qdt];rw[show zel ⟨zbZ g ns,e,(v:Int)⟩ (dL (zd3 ns e (List.range ns.length))) (iL xs)=some (⟨zbZ g ns,e,(v:Int)⟩,dL (zd3 ns e (List.range ns.length)),iL xs)from rfl,qaa];simp only[];rw[u1,qaa];have hb:=zkG h.ncs c8 (kn:=knE e) xs (zd3 ns e (List.range ns.length)) [] (zkw h (λv hv=>qbd.1 hv) (by simpa using hn8)) ho.nod (λ_ _ hm=>nomatch hm) (by unfold zd3; rw[qak,qdc]; exact hn1);have hfl:(zd3 ns e (List.range ns.length)).length=ns.length:=by unfold zd3; rw[qak,qdc]
 have hsl:(zxp ns e (List.range ns.length) xs).length<=xs.length+1:=zkj _ _
 have:=zwS (zxp ns e (List.range ns.length) xs) u 0 0 u2 (λx hx=>by
  obtain⟨b1,b2,b3⟩:=hb x hx
  exact⟨b1,by omega,b3⟩) (by omega)
 rw[show zbn u 0 0=_ from this,qaa]
theorem zCh{cs:List Nat}{e:List Int}(he:EvOk cs e)(hc:cs.length<=8):∀(n i M:Nat),i<=cs.length->cs.length - i<n->M<18446744073709551616->(∀ j,M.testBit j=(decide (j<i) && knE e j))->
  ∃ K:Nat,zdL e n (M:Int) (i:Int)=some (K:Int)/\K<18446744073709551616/\∀ j,K.testBit j=(decide (j<cs.length) && knE e j)
 | 0,_,_,_,h,_,_=>absurd h (qaj _)
 | n+1,i,M,hi,hn,hM,hb=>by
  unfold zdL;rw[he.len,zaz];by_cases hlt:i<cs.length
  .have hil:i<e.length:=by rw[he.len]; exact hlt
   have hx:e[i]=e.getD i (-1):=by rw[qal,qac hil]; rfl
   rw[qdv hlt,qdt,zaA hil,qaa,hx];cases hk:knE e i with
   | false=>
    rw[show decide (0<=e.getD i (-1))=false from hk,qdu,qaa,zaf (by omega)];refine zCh he hc n (i+1) M hlt (by omega) hM λj=>?_
    rw[hb];by_cases ej:j=i
    .subst ej; rw[hk,Bool.and_false,Bool.and_false]
    .congr 1
     rw[qb6,qdC,qdC];omega
   | true=>
    rw[show decide (0<=e.getD i (-1))=true from hk,qdt,zbH (by omega),zt7 (by omega),qaa,orU hM ((qbh (by decide) (show i<64 by omega):2 ^ i<2 ^ 64)),qaa,zaf (by omega)];refine zCh he hc n (i+1) (M ||| 2 ^ i) hlt (by omega) (zzp hM (by omega)) λj=>?_
    rw[zry,hb];by_cases ej:j=i
    .subst ej;rw[hk,qdv (rfl:j=j),qdp,qdv (qbt j)];rfl
    rw[show decide (i=j)=false from qdw (λh=>ej h.symm),Bool.or_false];congr 1
    rw[qb6,qdC,qdC];omega
  have hie:i=cs.length:=by omega
  rw[qdw hlt,qdu];exact⟨M,rfl,hM,λj=>by rw[hb,hie]⟩
theorem zxS:u∈(ztW e i f).vs↔u∈f.vs/\¬ (u=i/\knE e i=true):=by
 unfold ztW;cases hk:knE e i with
 | false=>simp
 | true=>
  rw[qdt];cases hp:pos f.vs i with
  | none=>
   have hn:=zjz hp;constructor
   .exact λh=>⟨h,λ⟨a,_⟩=>hn (a ▸ h)⟩
   .exact λh=>h.1
  | some k=>
   show u∈rest f i↔_;unfold rest;rw[qaO];constructor
   .exact λh=>⟨h.1,λ⟨a,_⟩=>by rw[a,qdz]at h; exact absurd h.2 (by decide)⟩
   exact λh=>⟨h.1,by rw[qdA (λa=>h.2 ⟨a,rfl⟩)]; rfl⟩
theorem zli{e:List Int}{u:Nat}:∀(m i:Nat) {f:Fc},u∈(ziw e m i f).vs↔u∈f.vs/\¬ (i<=u/\u<i+m/\knE e u=true)
 | 0,i,f=>by
  show u∈f.vs↔_;constructor
  .exact λh=>⟨h,λ⟨a,b,_⟩=>by omega⟩
  .exact λh=>h.1
 | m+1,i,f=>by
  show u∈(ziw e m (i+1) (ztW e i f)).vs↔_;rw[zli m (i+1),zxS];constructor
  .rintro⟨⟨h1,h2⟩,h3⟩;refine⟨h1,λ⟨a,b,c⟩=>?_⟩;by_cases ei:u=i
   .exact h2 ⟨ei,ei ▸ c⟩
   exact h3 ⟨by omega,by omega,c⟩
  rintro⟨h1,h2⟩;exact⟨⟨h1,λ⟨a,c⟩=>h2 ⟨by omega,by omega,a ▸ c⟩⟩,λ⟨a,b,c⟩=>h2 ⟨by omega,by omega,c⟩⟩
def zgi(ps:List (Fc×Nat)):List Nat:=ps.map λp=>zbs p.1.vs
theorem zrx(h:RightN g ns):u∈(zB3 ns e v).vs↔(u=v\/u∈(ns.getD v ztV).ps)/\¬ (u<ns.length/\knE e u=true):=by
 unfold zB3;rw[zli,show(zig (ns.map (·.c)) v (ns.getD v ztV)).vs=fam (ns.getD v ztV).ps v from rfl,zmZ];constructor
 .exact λ⟨a,b⟩=>⟨a,λ⟨c,d⟩=>b ⟨qar _,by omega,d⟩⟩
 exact λ⟨a,b⟩=>⟨a,λ⟨_,c,d⟩=>b ⟨by omega,d⟩⟩
theorem zDs{g:Nat}{ns:List NN}(h:RightN g ns){e:List Int}{K:Nat}(hK:K<18446744073709551616)(hb:∀ j,K.testBit j=(decide (j<ns.length) && knE e j)):∀(n i:Nat),i<=ns.length->ns.length - i<n ->
  zdM (iL (zau ns)) (K:Int) n (i:Int) (iL (zgi (zd3 ns e (List.range i))))=some (iL (zgi (zd3 ns e (List.range ns.length))))
 | 0,_,_,h=>absurd h (qaj _)
 | n+1,i,hi,hn=>by
  have hn8:=h.n2;have hml:(zau ns).length=ns.length:=by simp[zau]
  unfold zdM;rw[zai,hml,zaz];by_cases hlt:i<ns.length
  .have hx:ns.getD i ztV=ns[i]:=by rw[qal,qac hlt]; rfl
   have hm:(zau ns)[i]'(by rw[hml]; exact hlt)=zbs (ns[i]).ps:=by simp[zau]
   have hmlt:zbs (ns[i]).ps<18446744073709551616:=h.zfX _ (by unfold zau; exact qaB.2 ⟨_,qam hlt,rfl⟩);have hp:2 ^ i<18446744073709551616:=(qbh (by decide) (show i<64 by omega):2 ^ i<2 ^ 64);have he:diff (zbs (ns[i]).ps ||| 2 ^ i) K=zbs (zB3 ns e i).vs:=by
    refine qcC λj=>?_
    rw[zjp (zzp hmlt (by omega)) hK,zry,zcm,zcm,hb,qb6];simp only[qah,qbP,qbT,decide_eq_true_eq,Bool.and_eq_false_iff,decide_eq_false_iff_not];rw[zrx h,hx];constructor
    .rintro⟨a,b⟩;refine⟨a.elim .inr λa=>.inl a.symm,λ⟨c,d⟩=>?_⟩;rcases b with b | b
     .exact b c
     rw[d]at b; cases b
    rintro⟨a,b⟩;refine⟨a.elim (λa=>.inr a.symm) .inl,?_⟩;by_cases c:j<ns.length
    .cases d:knE e j with
     | false=>exact .inr rfl
     | true=>exact absurd ⟨c,d⟩ b
    exact .inl c
   rw[qdv hlt,qdt,zaW (by rw[hml]; exact hlt),qaa,hm,zbH (by omega),zt7 (by omega),qaa,orU hmlt hp,zGC,he];have hpush:zcX 8 (iL (zgi (zd3 ns e (List.range i)))) [((zbs (zB3 ns e i).vs:Nat):Int)]=some (iL (zgi (zd3 ns e (List.range (i+1))))):=by
    rw[zb8 (by rw[zai]; simp[zgi,zd3]; omega),List.range_succ];simp[iL,zgi,zd3]
   rw[hpush,qaa,zaf (by omega)];exact zDs h hK hb n (i+1) hlt (by omega)
  have:i=ns.length:=by omega
  subst this;rw[qdw hlt,qdu]
theorem zyR{ps:List (Fc×Nat)}{q:Fc×Nat->Bool}{v17:Int}{order:List Int}(hps:ps.length<=1000)(hm:∀ p∈ps,zbs p.1.vs<18446744073709551616)
  (hq:∀(i:Nat) (hi:i<ps.length),((bif (v17 ==(order.length:Int))then some true else((zaE (iL (zgi ps)) (i:Int)).bind λx19=>(zaE order v17).bind λx21=>(zes x19 x21).bind λr23=>some r23):Option Bool))=some (q ps[i])):
  ∀(n i U:Nat),i<=ps.length->ps.length - i<n->U<18446744073709551616->(∀ j,U.testBit j=true↔∃ p∈(ps.take i).filter q,j∈p.1.vs)->
  ∃ W:Nat,zdk (iL (zgi ps)) v17 order n (U:Int) ((((ps.take i).filter q).length:Nat):Int) (i:Int) (iL (zgi ((ps.take i).filter λp=>!q p)))=some ((W:Int),(((ps.filter q).length:Nat):Int),iL (zgi (ps.filter λp=>!q p)))/\W<18446744073709551616/\∀ j,W.testBit j=true↔∃ p∈ps.filter q,j∈p.1.vs
 | 0,_,_,_,h,_,_=>absurd h (qaj _)
 | n+1,i,U,hi,hn,hU,hb=>by
  have hml:(zgi ps).length=ps.length:=by simp[zgi]
  unfold zdk;rw[zai,hml,zaz];by_cases hlt:i<ps.length
  .have hg:zaE (iL (zgi ps)) (i:Int)=some ((zbs (ps[i]).1.vs:Nat):Int):=by rw[zaW (by rw[hml]; exact hlt)]; simp[zgi]
   have htk:ps.take (i+1)=ps.take i ++ [ps[i]]:=by rw[List.take_add_one,qac hlt]; rfl
   have hmi:=hm _ (qam hlt);have hf1:=qcS q (ps.take i);have hf2:=qcS (λp=>!q p) (ps.take i);rw[qbH]at hf1 hf2;rw[qdv hlt,qdt,hq i hlt,qaa,hg];cases hqi:q ps[i]with
   | true=>
    rw[qdt,qaa,qaa,orU hU hmi];simp only[];rw[zaf (by omega),zaf (by omega)]
    have ih:=zyR hps hm hq n (i+1) (U ||| zbs (ps[i]).1.vs) hlt (by omega) (qbZ (n:=64) hU hmi) (λj=>by
     rw[qcN,zcm,qbP,hb,htk,qb9,qbo hqi,qdC];constructor
     .rintro(⟨p,h1,h2⟩| h1)
      .exact⟨p,qcB _ h1,h2⟩
      exact⟨_,qdh _ qai,h1⟩
     rintro⟨p,h1,h2⟩;rcases qbf.1 h1 with h1 | h1
     .exact .inl ⟨p,h1,h2⟩
     rw[qcm,qaD]at h1; exact .inr (h1 ▸ h2))
    rw[htk,qb9,qb9,qbo hqi,qbn (p:=λp=>!q p) (by rw[hqi]; decide),qcm,qcm,qaH,qax]at ih;exact ih
   | false=>
    rw[qdu,qaa,zb8 (by rw[zai]; simp[zgi]; omega),qaa,qaa];simp only[];rw[zaf (by omega)]
    have ih:=zyR hps hm hq n (i+1) U hlt (by omega) hU (λj=>by
     rw[hb,htk,qb9,qbn (by rw[hqi]; decide),qcm,qaH])
    rw[htk,qb9,qb9,qbn (p:=q) (by rw[hqi]; decide),qbo (p:=λp=>!q p) (by rw[hqi]; rfl),qcm,qcm,qaH]at ih;rw[show iL (zgi ((ps.take i).filter λp=>!q p))++ [((zbs (ps[i]).1.vs:Nat):Int)]=iL (zgi (((ps.take i).filter λp=>!q p)++ [ps[i]]))from by simp[iL,zgi]];exact ih
  have hie:i=ps.length:=by omega
  subst hie;rw[qdw hlt,qdu];rw[qbR]at hb ⊢;exact⟨U,rfl,hU,hb⟩
theorem zwI{g:Nat}{ns:List NN}(h:RightN g ns){W:Nat}(hW:W<18446744073709551616):∀(n i:Nat),i<=ns.length->ns.length - i<n ->
  zdG (zbZ g ns) (W:Int) n ((zac (cd (ns.map (·.c)) ((List.range i).filter λv=>W.testBit v)):Nat):Int) (i:Int)=some ((zac (cd (ns.map (·.c)) ((List.range ns.length).filter λv=>W.testBit v)):Nat):Int)
 | 0,_,_,h=>absurd h (qaj _)
 | n+1,i,hi,hn=>by
  have hn8:=h.n2;have hnl:(zbZ g ns).nodes.length=ns.length:=by simp[zbZ]
  unfold zdG;rw[hnl,zaz];by_cases hlt:i<ns.length
  .have ih:=zwI h hW n (i+1) hlt (by omega);rw[List.range_succ,qb9]at ih;rw[qdv hlt,qdt,zvE hW (by omega),qaa];cases hb:W.testBit i with
   | false=>
    rw[qbn (by rw[hb]; decide),qcm,qaH]at ih;rw[qdu,qaa,zaf (by omega)];exact ih
   | true=>
    rw[qbo (p:=λv=>W.testBit v) hb,qcm,zlT,zfv]at ih;have hcc:zac (cd (ns.map (·.c)) [i])=ns[i].c:=by
     show(ns.map (·.c)).getD i 0 * 1=_;rw[qca,qal,qbg,qac hlt];rfl
    have hbd:zac (cd (ns.map (·.c)) ((List.range i).filter λv=>W.testBit v))<=1024:=(h.ncs.vars (qbc _ qbY) (λv hv=>by
     have:=qbd.1 (qaO.1 hv).1;simp
     omega)).1
    have hc4:=(h.zaF _ (qam hlt)).2;rw[hcc]at ih;rw[qdt,show zaE (zbZ g ns).nodes (i:Int)=some (nd ns[i])from zdc hlt,qaa];simp only[qaa,show(nd ns[i]).zaF=((ns[i].c:Nat):Int)from rfl];have hmu:zac (cd (ns.map (·.c)) ((List.range i).filter λv=>W.testBit v))* ns[i].c<=1024 * 4:=qa2 hbd hc4;rw[<- qaL,zar (by omega),zaf (by omega)];exact ih
  have hie:i=ns.length:=by omega
  subst hie;rw[qdw hlt,qdu]
variable{W:Nat}
theorem zwv(h:RightN g ns)(hW:W<18446744073709551616):ze4 (zbZ g ns) (W:Int)=some ((zac (cd (ns.map (·.c)) ((List.range ns.length).filter λv=>W.testBit v)):Nat):Int):=by
 have hnl:(zbZ g ns).nodes.length=ns.length:=by simp[zbZ]
 unfold ze4;rw[hnl,zap];have:=zwI h hW (ns.length+2) 0 (qar _) (by omega);rw[show zdG (zbZ g ns) (W:Int) (ns.length+2) 1 0=_ from this,qaa]
theorem zty{vs:List Nat}{q:Nat->Bool}(hi:vs.Pairwise (· < ·))(hl:∀ v∈vs,v<n)(hq:∀ j,q j=true↔j∈vs):(List.range n).filter q=vs:=by
 refine List.Perm.eq_of_pairwise (le:=λa b:Nat=>a<b) (λa b _ _ h1 h2=>absurd h1 (Nat.lt_asymm h2)) (qbc _ qbY) hi ?_;refine(List.perm_ext_iff_of_nodup (qbc _ qcM) (zbi hi)).2 λx=>?_
 rw[qaO,qbd,hq];exact⟨λh=>h.2,λh=>⟨hl x h,h⟩⟩
theorem zCv{vs:List Nat}(h:∀ v∈vs,v<64):zbs vs<18446744073709551616:=Nat.lt_pow_two_of_testBit (n:=64) _ λi hi=>by
 rw[zcm];exact qdw λhm=>absurd (h i hm) (by omega)
theorem zsR{cs:List Nat}(hc:NCs cs){qs:List (Fc×Nat)}(hl:Lok cs qs)(hB:bnd qs<=zdv)(hw:∀ j,W.testBit j=true↔∃ p∈qs,j∈p.1.vs):(List.range cs.length).filter (λv=>W.testBit v)=(zbX qs).vs/\(zbX qs).ws.length=zac (cd cs (zbX qs).vs):=by
 have hs:=zfb hc hl hB;refine⟨zty hs.ok.inc hs.var λj=>(hw j).trans (zgx hc hl hB).symm,?_⟩;rw[hs.ok.size,hs.cs_]
theorem zyG{cs:List Nat}(hc:NCs cs){x:Nat}{ps:List (Fc×Nat)}(hl:Lok cs (za0 x ps))(hB:bnd (za0 x ps)<=zdv)(hW:W<18446744073709551616)(hx:x<64)(hw:∀ j,W.testBit j=true↔∃ p∈za0 x ps,j∈p.1.vs):diff W (2 ^ x)=zbs (zsE (zbX (za0 x ps)) x).vs:=by
 have hp:2 ^ x<18446744073709551616:=(qbh (by decide) hx:2 ^ x<2 ^ 64);refine qcC λj=>?_
 rw[zjp hW hp,zcm,qcI,qb6,qah,hw,qdC,zrT,zgx hc hl hB];simp only[qbT,decide_eq_false_iff_not];exact⟨λ⟨a,b⟩=>⟨a,λe=>b e.symm⟩,λ⟨a,b⟩=>⟨a,λe=>b e.symm⟩⟩
theorem zB1{g:Nat}{ns:List NN}(h:RightN g ns){C:Nat}(hC:C * 1024<=zdv){kn:Nat->Bool}{xs:List Nat}(hxs:∀ x∈xs,x<ns.length)(hxl:xs.length<=8):∀(n i:Nat) (ps:List (Fc×Nat)) (E:List Nat) (a b:Nat),Est (ns.map (·.c)) C E ps->(xs.drop i).Nodup->(∀ x∈xs.drop i,x ∉ E)->(∀ y,kn y=true->occ ps y=false)->
  1<=ps.length->ps.length<=8->i<=xs.length->xs.length+1 - i<n->a+1024000 * (xs.length+1 - i)<=4611686018427387904 ->
  zdm (iL xs) (zbZ g ns) n (iL (zgi ps)) (a:Int) (b:Int) (i:Int)=some (((zqT (ziH kn (λv=>(ns.map (·.c)).getD v 0) ps (xs.drop i)) a b).1:Int),((zqT (ziH kn (λv=>(ns.map (·.c)).getD v 0) ps (xs.drop i)) a b).2:Int))
 | 0,_,_,_,_,_,_,_,_,_,_,_,_,h,_=>absurd h (qaj _)
 | n+1,i,ps,E,a,b,he,hn,hE,hk,h1,h8,hi,hf,ha=>by
  have hc:=h.ncs;have hn8:=h.n2;have hm:∀ p∈ps,zbs p.1.vs<18446744073709551616:=λp hp=>zCv λv hv=>((he.lok.st p hp).ok.var v hv)
  unfold zdm;rw[zai,show decide ((i:Int)<=((xs.length:Nat):Int))=true from qdv (by omega),qdt];rcases qaY i xs.length with hlt | hge
  .have hxn:xs[i]<ns.length:=hxs _ (qam hlt);have hd:xs.drop i=xs[i]:: xs.drop (i+1):=qas hlt;obtain⟨x,hx⟩:∃ x,xs[i]=x:=⟨_,rfl⟩;rw[hd,hx]at hn hE ⊢;rw[hx]at hxn;obtain⟨n1,n2⟩:=qbb.1 hn;have hE':∀ y∈xs.drop (i+1),y ∉ E:=λy hy=>hE y (qag _ hy)
   obtain⟨W,w1,w2,w3⟩:=zyR (ps:=ps) (q:=λp=>decide (x∈p.1.vs)) (v17:=(i:Int)) (order:=iL xs) (by omega) hm (λj hj=>by
    rw[zai,show((i:Int)==((xs.length:Nat):Int))=false from by rw[qdy]; omega,qdu,zaW (by simpa [zgi]using hj),zaW hlt,hx];simp only[qaa];have:(zgi ps)[j]'(by simpa [zgi]using hj)=zbs (ps[j]).1.vs:=by simp[zgi]
    rw[this,zvE (hm _ (qam hj)) (by omega),qaa,zcm]) (ps.length+2) 0 0 (qar _) (by omega) (by decide) (λj=>by simp)
   have w1':zdk (iL (zgi ps)) (i:Int) (iL xs) ((((iL (zgi ps)).length:Int) - 0+2:Int).toNat) 0 0 0 []=some ((W:Int),(((za0 x ps).length:Nat):Int),iL (zgi (zeH x ps))):=by
    rw[zai,show(zgi ps).length=ps.length from qak _,zap]; exact w1
   have w3':∀ j,W.testBit j=true↔∃ p∈za0 x ps,j∈p.1.vs:=w3;rw[w1',qaa];simp only[];unfold ziH;cases ho:occ ps x with
   | false=>
    have hw:za0 x ps=[]:=by
     cases hw:za0 x ps with
     | nil=>rfl
     | cons a b=>exact absurd (zie.2 (by rw[hw]; exact List.cons_ne_nil _ _)) (by rw[ho]; decide)
    rw[hw,show(((([]:List (Fc×Nat)).length:Nat):Int)== 0)=true from rfl,qdt,qaa];simp only[];rw[zaf (by omega),qcd,qdp,qdt];exact zB1 h hC hxs hxl n (i+1) ps E a b he n2 hE' hk h1 h8 hlt (by omega) (by omega)
   | true=>
    have hkx:kn x=false:=by
     cases hkk:kn x with
     | false=>rfl
     | true=>have:=hk x hkk; rw[ho]at this; cases this
    have hwl:0<(za0 x ps).length:=List.length_pos_iff.2 (zie.1 ho);have hpl:=zkg x ps;obtain⟨s1,s2,s3,s4⟩:=he.step hc hC ho (hE x qai);have hlw:=he.lok.sub (zfe (x:=x));have hB:bnd (za0 x ps)<=zdv:=qaq (zm7 he.lok) (he.tot hc hC);obtain⟨u1,u2⟩:=zsR hc hlw hB w3';rw[qak]at u1;have hst:=zfb hc hlw hB;have h1024:(zbX (za0 x ps)).ws.length<=1024:=by
     rw[hst.ok.size,hst.cs_];exact(hc.vars hst.ok.inc hst.var).1
    have hm':((za0 x ps).length - 1)* (zbX (za0 x ps)).ws.length<=999 * 1024:=qa2 (by omega) h1024;rw[show((((za0 x ps).length:Nat):Int)== 0)=false from by rw[qdy]; omega,qdu,zwv h w2,qaa,qaa,u1,<- u2,show decide ((i:Int)<((xs.length:Nat):Int))=true from qdv (by omega),qdt,zaW hlt,hx,qaa,zbH (by omega),zt7 (by omega),qaa,zGC,zyG hc hlw hB w2 (by omega) w3',zb8 (by rw[zai,show(zgi (zeH x ps)).length=(zeH x ps).length from qak _]; show((zeH x ps).length+1)* 8<=70368744177664; omega),qaa,qaa];simp only[]
    rw[show iL (zgi (zeH x ps))++ [((zbs (zsE (zbX (za0 x ps)) x).vs:Nat):Int)]=iL (zgi (zgK (λv=>(ns.map (·.c)).getD v 0) x ps))from by simp[iL,zgi,zgK],
     zed (n:=(((za0 x ps).length:Nat):Int) - 1) (by omega) (by omega),show((((za0 x ps).length:Nat):Int) - 1)* (((zbX (za0 x ps)).ws.length:Nat):Int)=((((za0 x ps).length - 1)* (zbX (za0 x ps)).ws.length:Nat):Int)from by rw[qaL]; congr 1; omega,zar (by omega),
     show(a:Int)+((((za0 x ps).length - 1)* (zbX (za0 x ps)).ws.length:Nat):Int)=((a+((za0 x ps).length - 1)* (zbX (za0 x ps)).ws.length:Nat):Int)from by rw[qby],zar (by omega),
     show zhs (b:Int) (((zbX (za0 x ps)).ws.length:Nat):Int)=((max b (zbX (za0 x ps)).ws.length:Nat):Int)from by unfold zhs; split<;>omega,zaf (by omega),hkx,qbl,Bool.or_false,qdu]
    exact zB1 (kn:=kn) h hC hxs hxl n (i+1) (zgK (λv=>(ns.map (·.c)).getD v 0) x ps) (x :: E) (a+((za0 x ps).length - 1)* (zbX (za0 x ps)).ws.length) (max b (zbX (za0 x ps)).ws.length) s2 n2 (λy hy hm=>by
     rcases qav.1 hm with rfl | hm
     .exact n1 hy
     exact hE' y hy hm) (λy hy=>by rw[s4 y λe=>by rw[e,hkx]at hy; cases hy]; exact hk y hy) (by unfold zgK; rw[qax,qct]; omega) (by unfold zgK; rw[qax,qct]; omega) hlt (by omega) (by omega)
  have hil:i=xs.length:=by omega
  subst hil
  obtain⟨W,w1,w2,w3⟩:=zyR (ps:=ps) (q:=λ_=>true) (v17:=((xs.length:Nat):Int)) (order:=iL xs) (by omega) hm (λj hj=>by
   rw[zai,qdz,qdt]) (ps.length+2) 0 0 (qar _) (by omega) (by decide) (λj=>by simp)
  have ft:ps.filter (λ_=>true)=ps:=qc1.2 λ_ _=>rfl
  rw[ft]at w1;have w3':∀ j,W.testBit j=true↔∃ p∈ps,j∈p.1.vs:=λj=>by have:=w3 j; rwa [ft]at this
  have w1':zdk (iL (zgi ps)) ((xs.length:Nat):Int) (iL xs) ((((iL (zgi ps)).length:Int) - 0+2:Int).toNat) 0 0 0 []=some ((W:Int),((ps.length:Nat):Int),iL (zgi (ps.filter λ_=>!true))):=by
   rw[zai,show(zgi ps).length=ps.length from qak _,zap]; exact w1
  have hB:bnd ps<=zdv:=he.tot hc hC;obtain⟨u1,u2⟩:=zsR hc he.lok hB w3';rw[qak]at u1;have hst:=zfb hc he.lok hB;have h1024:(zbX ps).ws.length<=1024:=by
   rw[hst.ok.size,hst.cs_];exact(hc.vars hst.ok.inc hst.var).1
  have hm':(ps.length - 1)* (zbX ps).ws.length<=999 * 1024:=qa2 (by omega) h1024;obtain⟨m,rfl⟩:∃ m,n=m+1:=⟨n - 1,by omega⟩;rw[w1',qaa];simp only[];rw[show(((ps.length:Nat):Int)== 0)=false from by rw[qdy]; omega,qdu,zwv h w2,qaa,qaa,u1,<- u2,show decide (((xs.length:Nat):Int)<((xs.length:Nat):Int))=false from qdw (by omega),qdu,qaa];simp only[]
  rw[zed (n:=((ps.length:Nat):Int) - 1) (by omega) (by omega),show(((ps.length:Nat):Int) - 1)* (((zbX ps).ws.length:Nat):Int)=(((ps.length - 1)* (zbX ps).ws.length:Nat):Int)from by rw[qaL]; congr 1; omega,zar (by omega),
   show(a:Int)+(((ps.length - 1)* (zbX ps).ws.length:Nat):Int)=((a+(ps.length - 1)* (zbX ps).ws.length:Nat):Int)from by rw[qby],zar (by omega),
   show zhs (b:Int) (((zbX ps).ws.length:Nat):Int)=((max b (zbX ps).ws.length:Nat):Int)from by unfold zhs; split<;>omega,zaf (by omega)]
  unfold zdm;rw[zai,show decide (((xs.length+1:Nat):Int)<=((xs.length:Nat):Int))=false from qdw (by omega),qdu,qbx];rfl
end Go.Dc
