/-
 Plain laws: what is reached in a net. Conditions: none.
-/
import Derived.Test.YtnfgibomhkbcpaaNfJ16
set_option linter.unusedSimpArgs false
set_option linter.unusedVariables false
namespace Go.Dc
open Go Go.Mx Go.Lx
inductive Reach (ms:List Nat):Nat→Nat→Prop
 | refl (i:Nat):Reach ms i i
 | step {s p i:Nat}:(ms.getD s 0).testBit p=true→Reach ms p i→Reach ms s i
structure GOk (ms:List Nat) (rk:Nat→Nat):Prop where
 len:ms.length≤8
 lt:∀ m∈ms,m<18446744073709551616
 down:∀ v p,(ms.getD v 0).testBit p=true→p<ms.length∧rk p<rk v
theorem zsy{ms:List Nat}{c s i:Nat}(h:Reach ms s i)(hs:c.testBit s=true)(hc:∀ i,c.testBit i=true→Sub (ms.getD i 0) c):c.testBit i=true:=by
 induction h with
 | refl i=>exact hs
 | step h1 h2 ih=>exact ih (hc _ hs _ h1)
theorem RightN.gok{g:Nat}{ns:List NN}(h:RightN g ns):∃ rk:Nat→Nat,GOk (zas ns) rk∧∀ v,rk v≤8:=by
 have hml:(zas ns).length=ns.length:=by simp[zas]
 have hn:=h.n2;obtain⟨rk,h1,h2⟩:=h.rk;refine⟨rk,⟨by omega,h.zeC,fun v p hp=>?_⟩,h1⟩;by_cases hv:v<ns.length
 ·rw[show(zas ns).getD v 0=zbh ns[v].ps by simp[zas,hv],zcJ]at hp;have hp:=of_decide_eq_true hp;exact⟨by rw[hml]; exact h.lt _ (qaq hv) p hp,h2 v _ (qad hv) p hp⟩
 rw[show(zas ns).getD v 0=0 by simp[zas,hv]]at hp;simp at hp
theorem zke{xs:List Nat}(h:∀ m∈xs,m<18446744073709551616)(i:Nat):xs.getD i 0<18446744073709551616:=by
 by_cases hi:i<xs.length
 ·rw[show xs.getD i 0=xs[i] by simp[hi]]; exact h _ (qaq hi)
 rw[show xs.getD i 0=0 by simp[hi]]; decide
theorem zqI{xs:List Nat}{i:Nat}(h:i<xs.length):zaP (iL xs) (i:Int)=some ((xs.getD i 0:Nat):Int):=by
 rw[za2 h]; simp[h]
theorem Reach.tr{ms:List Nat}{a b c:Nat}(h1:Reach ms a b)(h2:Reach ms b c):Reach ms a c:=by
 induction h1 with
 | refl=>exact h2
 | step e _ ih=>exact .step e (ih h2)
theorem zuT{n:Nat}{os:List Nat}(hd:os.Nodup)(hl:os.length=n)(hlt:∀ x∈os,x<n):∀ v,v<n→v∈os:=by
 intro v hv;refine qaY fun hno=>?_
 have:=zlZ (xs:=v :: os) (ys:=List.range n) (qbT.2 ⟨hno,hd⟩) fun y hy=>by
  rcases qaL.1 hy with rfl | hy
  ·exact qbr.2 hv
  exact qbr.2 (hlt y hy)
 rw[qbP,qaD]at this;omega
theorem zc9.zy8{ms os:List Nat}(h:zc9 ms os)(hl:os.length=ms.length):∀ v p,v<ms.length→(ms.getD v 0).testBit p=true→os.idxOf p<os.idxOf v:=by
 intro v p hv hp;have hmem:=zuT h.nod hl h.lt v hv;have hlt:=List.idxOf_lt_length_iff.2 hmem;have hget:os[os.idxOf v]? = some v:=by rw[qad hlt]; simp
 have h1:=(h _ v hget).ready.2 p hp;rw[zcJ]at h1;obtain⟨j,hj,hjp⟩:=List.mem_take_iff_getElem.1 (of_decide_eq_true h1);have hjl:j<os.length:=by omega
 have hpm:p∈os:=by rw[← hjp]; exact qaq _
 have hpl:=List.idxOf_lt_length_iff.2 hpm;have:os.idxOf p=j:=by
  have hd:=h.nod;refine qaY fun hne=>?_
  exact zrv hd (i:=os.idxOf p) (j:=j) (v:=p) (w:=p) (by rw[qad hpl]; simp) (by rw[qad hjl,hjp]) hne rfl
 omega
def iter(f:Nat→Nat)(v:Nat):Nat→Nat
 | 0=>v
 | k+1=>f (iter f v k)
theorem zxv{n:Nat}(s:Nat→Nat)(h:∀ k,s k<n):∃ i j,i<j∧s i=s j:=by
 refine qaY fun hno=>?_
 have hd:((List.range (n+1)).map s).Nodup:=by
  rw[List.Nodup,qa9];intro i j hi hj hij he;simp only[qcs,qcR]at he;exact hno ⟨i,j,hij,he⟩
 have:=zlZ hd (ys:=List.range n) fun x hx=>by
  obtain⟨k,_,rfl⟩:=qaG.1 hx;exact qbr.2 (h k)
 simp at this;omega
theorem zmp{ms os:List Nat}(hb:∀ v p,(ms.getD v 0).testBit p=true→p<ms.length)(hl:os.length<ms.length)(hd:os.Nodup)(hno:∀ v,v<ms.length→¬ zgN ms (zbh os) v):
  ∃ v p,v<ms.length∧(ms.getD v 0).testBit p=true∧Reach ms p v:=by
 have hf:∀ v,∃ p,v<ms.length→v ∉ os→(ms.getD v 0).testBit p=true∧p<ms.length∧p ∉ os:=by
  intro v;by_cases hv:v<ms.length∧v ∉ os
  ·have h1:¬ Sub (ms.getD v 0) (zbh os):=fun hs=>hno v hv.1 ⟨by rw[zcJ]; simp[hv.2],hs⟩
   have:∃ p,(ms.getD v 0).testBit p=true∧(zbh os).testBit p≠true:=qaY fun hn=>h1 fun i hi=>qaY fun hi2=>hn ⟨i,hi,hi2⟩
   obtain⟨p,h2,h3⟩:=this;rw[zcJ]at h3;exact⟨p,fun _ _=>⟨h2,hb v p h2,by simpa using h3⟩⟩
  exact⟨0,fun h1 h2=>absurd ⟨h1,h2⟩ hv⟩
 have hx:∃ v,v<ms.length∧v ∉ os:=by
  refine qaY fun hn=>?_
  have:=zlZ List.nodup_range (xs:=List.range ms.length) (ys:=os) fun x hx=>qaY fun hx2=>hn ⟨x,qbr.1 hx,hx2⟩
  rw[qbP]at this;omega
 obtain⟨v0,hv0,hv1⟩:=hx
 let f:Nat→Nat:=fun v=>Classical.choose (hf v)
 have hfs:∀ v,v<ms.length→v ∉ os→(ms.getD v 0).testBit (f v)=true∧f v<ms.length∧f v ∉ os:=fun v=>Classical.choose_spec (hf v)
 have hin:∀ k,iter f v0 k<ms.length∧iter f v0 k ∉ os:=by
  intro k;induction k with
  | zero=>exact⟨hv0,hv1⟩
  | succ k ih=>exact(hfs _ ih.1 ih.2).2
 obtain⟨i,j,hij,he⟩:=zxv (iter f v0) fun k=>(hin k).1
 have hr:∀ d k,Reach ms (iter f v0 k) (iter f v0 (k+d)):=by
  intro d;induction d with
  | zero=>intro k; exact .refl _
  | succ d ih=>
   intro k;have:=ih (k+1);rw[show k+1+d=k+(d+1) by omega]at this;exact .step (hfs _ (hin k).1 (hin k).2).1 this
 refine⟨iter f v0 i,iter f v0 (i+1),(hin i).1,(hfs _ (hin i).1 (hin i).2).1,?_⟩;have:=hr (j - (i+1)) (i+1);rw[show i+1+(j - (i+1))=j by omega,← he]at this;exact this
theorem zpp{ms:List Nat}{rk:Nat→Nat}(h:∀ v p,(ms.getD v 0).testBit p=true→rk p<rk v){a b:Nat}(hr:Reach ms a b):rk b≤rk a:=by
 induction hr with
 | refl=>exact qaj _
 | step e _ ih=>exact qas ih (qda (h _ _ e))
def cnt(n s:Nat):Nat:=(List.range n).countP (s.testBit ·)
theorem zwm(n s:Nat):cnt n s≤n:=by
 have:=List.countP_le_length (p:=(s.testBit ·)) (l:=List.range n);rw[qbP]at this;exact this
theorem zk6{p q:Nat→Bool}:∀ {xs:List Nat},(∀ x∈xs,p x=true→q x=true)→(∃ x∈xs,p x=false∧q x=true)→xs.countP p<xs.countP q
 | [],_,h=>by obtain⟨x,hx,_⟩:=h; cases hx
 | y :: ys,h1,h2=>by
  have hle:ys.countP p≤ys.countP q:=List.countP_mono_left fun x hx=>h1 x (qal _ hx)
  rw[List.countP_cons,List.countP_cons];obtain⟨x,hx,h3,h4⟩:=h2;rcases qaL.1 hx with rfl | hx
  ·simp only[h3,h4]; simp; omega
  have ih:=zk6 (xs:=ys) (fun x hx=>h1 x (qal _ hx)) ⟨x,hx,h3,h4⟩;cases hp:p y with
  | false=>simp only[qaR,if_false]; split<;>omega
  | true=>simp only[h1 y qap hp,if_true]; omega
theorem zws{n s t:Nat}(h1:Sub s t)(h2:∃ x,x<n∧s.testBit x=false∧t.testBit x=true):cnt n s<cnt n t:=by
 obtain⟨x,h3,h4,h5⟩:=h2;exact zk6 (fun x _ hx=>h1 x hx) ⟨x,qbr.2 h3,h4,h5⟩
theorem zvs{n s:Nat}(h:n≤cnt n s):∀ x,x<n→s.testBit x=true:=by
 intro x hx;have h1:cnt n s=(List.range n).length:=by rw[qbP]; exact Nat.le_antisymm (zwm n s) h
 exact List.countP_eq_length.1 h1 x (qbr.2 hx)
theorem zg1{n:Nat}(F:Nat→Nat)(h1:∀ s,Sub s (F s))(h2:∀ s,(∀ x,s.testBit x=true→x<n)→∀ x,(F s).testBit x=true→x<n):∀(k s:Nat),(∀ x,s.testBit x=true→x<n)→
  F (iter F s k)=iter F s k∨k≤cnt n (iter F s k)
 | 0,s,_=>.inr (qay _)
 | k+1,s,h=>by
  have hin:∀ j,∀ x,(iter F s j).testBit x=true→x<n:=by
   intro j;induction j with
   | zero=>exact h
   | succ j ih=>exact h2 _ ih
  rcases zg1 F h1 h2 k s h with h3 | h3
  ·exact .inl (by show F (F (iter F s k))=F (iter F s k); rw[h3,h3])
  by_cases he:F (iter F s k)=iter F s k
  ·exact .inl (by show F (F (iter F s k))=F (iter F s k); rw[he,he])
  refine .inr (qbC h3 (zws (h1 _) ?_));refine qaY fun hno=>he ?_
  apply qc4;intro i;cases hi:(iter F s k).testBit i with
  | true=>exact h1 _ i hi
  | false=>
   cases hf:(F (iter F s k)).testBit i with
   | false=>rfl
   | true=>exact absurd ⟨i,hin (k+1) i hf,hi,hf⟩ hno
def ztK:S_net_network:=⟨⟨0,[]⟩,[],[],[]⟩
def PsV(m v:Int):Int→List Int→Prop
 | _,[]=>True
 | lo,p :: r=>lo<p∧p<m∧p≠v∧PsV m v p r
def zkW(m:Int):Int→List Int→Prop
 | _,[]=>True
 | lo,p :: r=>lo<p∧p<m∧zkW m p r
theorem PsV.iff{m v:Int}:∀ {ps:List Int} {lo:Int},PsV m v lo ps↔zkW m lo ps∧∀ p∈ps,p≠v
 | [],lo=>by simp[PsV,zkW]
 | p :: r,lo=>by
  simp only[PsV,zkW,PsV.iff (ps:=r) (lo:=p),qaL,forall_eq_or_imp];exact⟨fun⟨a,b,c,d,e⟩=>⟨⟨a,b,d⟩,c,e⟩,fun⟨⟨a,b,d⟩,c,e⟩=>⟨a,b,c,d,e⟩⟩
theorem zkW.zyf{m:Nat}:∀ {ps:List Int} {lo:Int},-1≤lo→zkW m lo ps→∃ qs:List Nat,ps=iL qs∧qs.Pairwise (· < ·)∧(∀ q∈qs,lo<(q:Int))∧∀ q∈qs,q<m
 | [],lo,_,_=>⟨[],rfl,List.Pairwise.nil,by simp,by simp⟩
 | p :: r,lo,hl,h=>by
  obtain⟨h1,h2,h3⟩:=h;obtain⟨qs,e,g1,g2,g3⟩:=h3.zyf (by omega);refine⟨p.toNat :: qs,?_,qbL.2 ⟨fun q hq=>?_,g1⟩,fun q hq=>?_,fun q hq=>?_⟩
  ·rw[e]; simp only[iL,qaH]; congr 1; omega
  ·have:=g2 q hq; omega
  ·rcases qaL.1 hq with rfl | hq
   ·omega
   have:=g2 q hq; omega
  rcases qaL.1 hq with rfl | hq
  ·omega
  exact g3 q hq
theorem zkW.of{m:Nat}:∀ {qs:List Nat} {lo:Int},qs.Pairwise (· < ·)→(∀ q∈qs,lo<(q:Int))→(∀ q∈qs,q<m)→zkW m lo (iL qs)
 | [],lo,_,_,_=>trivial
 | q :: r,lo,h,h1,h2=>by
  obtain⟨h3,h4⟩:=qbL.1 h;show lo<(q:Int)∧(q:Int)<(m:Int)∧zkW m (q:Int) (iL r);refine⟨h1 q qap,by have:=h2 q qap; omega,zkW.of h4 (fun p hp=>by have:=h3 p hp; omega) fun p hp=>h2 p (qal _ hp)⟩
theorem zow{v:Nat}{ns:S_api_Net}{x:S_api_Node}{xs ys:List Nat}(hn:ns.nodes.length≤8)(hv:xs.length=v)(hpl:x.parents.length≤1000):∀(n i m:Nat) (lo:Int),-1≤lo→i≤x.parents.length→m<18446744073709551616→x.parents.length - i<n →
  (PsV ns.nodes.length v lo (x.parents.drop i)∧∃ qs:List Nat,x.parents.drop i=iL qs∧zb3 x ns (v:Int) n lo (i:Int) (iL (xs ++ m :: ys))=some (.go (iL (xs ++ (qs.foldl (fun m p=>m ||| 2 ^ p) m):: ys))))∨
  (¬ PsV ns.nodes.length v lo (x.parents.drop i)∧zb3 x ns (v:Int) n lo (i:Int) (iL (xs ++ m :: ys))=some (.ret (ztK,50)))
 | 0,_,_,_,_,_,_,h=>absurd h (qam _)
 | n+1,i,m,lo,hlo,h1,h2,h3=>by
  unfold zb3;by_cases hi:i<x.parents.length
  ·have hd:x.parents.drop i=x.parents[i]:: x.parents.drop (i+1):=qao hi;obtain⟨p,hp⟩:∃ p,x.parents[i]=p:=⟨_,rfl⟩;rw[zar,decide_eq_true hi,cond_true,zaJ hi,qaa,hd,hp];by_cases c1:p≤lo
   ·refine .inr ⟨fun h=>by have:=h.1; omega,?_⟩;rw[decide_eq_true c1,cond_true,qaa,cond_true]; rfl
   by_cases c2:(ns.nodes.length:Int)≤p
   ·refine .inr ⟨fun h=>by have:=h.2.1; omega,?_⟩;rw[decide_eq_false c1,cond_false,decide_eq_true c2,cond_true,qaa,cond_true]; rfl
   by_cases c3:p=(v:Int)
   ·refine .inr ⟨fun h=>h.2.2.1 c3,?_⟩;rw[decide_eq_false c1,cond_false,decide_eq_false c2,cond_false,qaa,show(p ==(v:Int))=true by simp[c3],cond_true]; rfl
   obtain⟨q,rfl⟩:∃ q:Nat,p=(q:Int):=⟨p.toNat,by omega⟩;have hpw:2 ^ q<18446744073709551616:=qbX (n:=64) (by decide) (by omega);have hm:m ||| 2 ^ q<18446744073709551616:=qck (n:=64) h2 hpw;rw[decide_eq_false c1,cond_false,decide_eq_false c2,cond_false,qaa,show((q:Int)==(v:Int))=false by rw[beq_eq_false_iff_ne]; exact c3,cond_false,← hv,zdp,qaa,zyu (by omega),qaa,orU h2 hpw,zfA,qaa,zao (by omega),hv];rcases zow (v:=v) (ns:=ns) (x:=x) (xs:=xs) (ys:=ys) hn hv hpl n (i+1) (m ||| 2 ^ q) (q:Int) (by omega) hi hm (by omega)with⟨g1,qs,g2,g3⟩| ⟨g1,g2⟩
   ·exact .inl ⟨⟨by omega,by omega,c3,g1⟩,q :: qs,by rw[g2]; rfl,by rw[g3]; rfl⟩
   exact .inr ⟨fun h=>g1 h.2.2.2,g2⟩
  rw[zar,decide_eq_false hi,cond_false,qaM (by omega)];exact .inl ⟨qdc,[],rfl,rfl⟩
theorem zn8{ps:List Int}{m:Int}(hpl:ps.length≤1000):∀(n i:Nat) (lo:Int),-1≤lo→(i=0→lo = -1)→(∀ h:i - 1<ps.length,i≠0→lo=ps[i - 1])→i≤ps.length→ps.length - i<n →
  (zkW m lo (ps.drop i)∧zbq ps m n (i:Int)=some (.go ()))∨(¬ zkW m lo (ps.drop i)∧zbq ps m n (i:Int)=some (.ret false))
 | 0,_,_,_,_,_,_,h=>absurd h (qam _)
 | n+1,i,lo,hlo,h0,hp,h1,h3=>by
  unfold zbq;by_cases hi:i<ps.length
  ·have hd:ps.drop i=ps[i]:: ps.drop (i+1):=qao hi;obtain⟨p,hpp⟩:∃ p,ps[i]=p:=⟨_,rfl⟩;rw[zar,decide_eq_true hi,cond_true,zaJ hi,qaa,hd,hpp];by_cases c1:p<0
   ·refine .inr ⟨fun h=>by have:=h.1; omega,?_⟩;rw[decide_eq_true c1,cond_true,qaa,cond_true]
   by_cases c2:m≤p
   ·refine .inr ⟨fun h=>by have:=h.2.1; omega,?_⟩;rw[decide_eq_false c1,cond_false,decide_eq_true c2,cond_true,qaa,cond_true]
   rw[decide_eq_false c1,cond_false,decide_eq_false c2,cond_false];have hrec:lo<p→(zkW m lo (p :: ps.drop (i+1))∧zbq ps m n (w64 ((i:Int)+1))=some (.go ()))∨(¬ zkW m lo (p :: ps.drop (i+1))∧zbq ps m n (w64 ((i:Int)+1))=some (.ret false)):=by
    intro hlp;rw[zao (by omega)];rcases zn8 hpl n (i+1) p (by omega) (fun h=>by omega) (fun h _=>by simp only[Nat.add_sub_cancel]; exact hpp.symm) hi (by omega)with⟨g1,g2⟩| ⟨g1,g2⟩
    ·exact .inl ⟨⟨hlp,by omega,g1⟩,g2⟩
    exact .inr ⟨fun h=>g1 h.2.2,g2⟩
   by_cases c3:i=0
   ·have c4:¬ ((0:Int)<(i:Int)):=by omega
    rw[decide_eq_false c4,cond_false,qaa,cond_false];exact hrec (by have:=h0 c3; omega)
   have hi1:i - 1<ps.length:=by omega
   have hlo':=hp hi1 c3;have c4:(0:Int)<(i:Int):=by omega
   rw[decide_eq_true c4,cond_true,show w64 ((i:Int) - 1)=((i - 1:Nat):Int) by rw[zgT (by omega) (by omega)]; omega,zaJ hi1,qaa,qaa,← hlo'];by_cases c5:p≤lo
   ·rw[decide_eq_true c5,cond_true];exact .inr ⟨fun h=>by have:=h.1; omega,rfl⟩
   rw[decide_eq_false c5,cond_false];exact hrec (by omega)
  rw[zar,decide_eq_false hi,cond_false,qaM (by omega)];exact .inl ⟨qdc,rfl⟩
theorem zrE{ps:List Int}{m:Int}(hpl:ps.length≤1000):∃ b,zdv ps m=some b∧(b=true↔zkW m (-1) ps):=by
 unfold zdv;rw[zax];rcases zn8 (m:=m) hpl (ps.length+2) 0 (-1) (by omega) (fun _=>rfl) (fun _ h=>absurd rfl h) (qay _) (by omega)with⟨g1,g2⟩| ⟨g1,g2⟩
 ·rw[show((0:Nat):Int)=0 from rfl]at g2;rw[g2,qaa];exact⟨true,rfl,fun _=>g1,fun _=>rfl⟩
 rw[show((0:Nat):Int)=0 from rfl]at g2;rw[g2,qaa];exact⟨false,rfl,fun h=>by(cases h),fun h=>absurd h g1⟩
theorem zkK{a b:List Nat}(h:iL a=iL b):a=b:=by
 have:=congrArg (List.map Int.toNat) h;simpa [iL,qbi]using this
def zoA(g c:Nat)(r:List Int):Prop:=∃ zs:List Nat,r=iL zs∧zs.length=c∧zs.sum=g
theorem ziT{y:Int×List Int}(hl:y.2.length≤1000):∀(n i r:Nat),i≤y.2.length→r≤65536→y.2.length - i<n →
  (∃ zs:List Nat,y.2.drop i=iL zs∧zs.sum≤r∧zaz y n (r:Int) (i:Int)=some (.go ((r - zs.sum:Nat):Int)))∨
  ((¬ ∃ zs:List Nat,y.2.drop i=iL zs∧zs.sum≤r)∧zaz y n (r:Int) (i:Int)=some (.ret false))
 | 0,_,_,_,_,h=>absurd h (qam _)
 | n+1,i,r,h1,hr,h3=>by
  unfold zaz;by_cases hi:i<y.2.length
  ·have hd:y.2.drop i=y.2[i]:: y.2.drop (i+1):=qao hi;obtain⟨p,hpp⟩:∃ p,y.2[i]=p:=⟨_,rfl⟩;rw[zar,decide_eq_true hi,cond_true,zaJ hi,qaa,hd,hpp];by_cases c1:p<0
   ·refine .inr ⟨fun⟨zs,e,_⟩=>?_,by rw[decide_eq_true c1,cond_true,qaa,cond_true]⟩;cases zs with
    | nil=>cases e
    | cons z zs=>simp only[iL,qaH,qcn]at e; omega
   by_cases c2:(r:Int)<p
   ·refine .inr ⟨fun⟨zs,e,hs⟩=>?_,by rw[decide_eq_false c1,cond_false,qaa,decide_eq_true c2,cond_true]⟩;cases zs with
    | nil=>cases e
    | cons z zs=>simp only[iL,qaH,qcn]at e; rw[qbR]at hs; omega
   obtain⟨q,rfl⟩:∃ q:Nat,p=(q:Int):=⟨p.toNat,by omega⟩;rw[decide_eq_false c1,cond_false,qaa,decide_eq_false c2,cond_false,show((r:Int) - (q:Int))=((r - q:Nat):Int) by omega,zaA (by omega),zao (by omega)];rcases ziT hl n (i+1) (r - q) hi (by omega) (by omega)with⟨zs,e,hs,g⟩| ⟨g1,g2⟩
   ·refine .inl ⟨q :: zs,by rw[e]; rfl,by rw[qbR]; omega,by rw[g,qbR,Nat.sub_sub]⟩
   refine .inr ⟨fun⟨zs,e,hs⟩=>g1 ?_,g2⟩;cases zs with
   | nil=>cases e
   | cons z zs=>
    simp only[iL,qaH,qcn]at e;rw[qbR]at hs;exact⟨zs,e.2,by omega⟩
  rw[zar,decide_eq_false hi,cond_false,qaM (by omega)];exact .inl ⟨[],rfl,qay _,by simp⟩
theorem ziN{g c:Nat}{nw:S_net_network}{x:S_api_Node}(hg:nw.net.grain=(g:Int))(hg2:g≤60)(hc:x.card=(c:Int)):∀(L:List (Int×List Int)),(∀ y∈L,y.2.length≤1000)→
  ((∀ y∈L,zoA g c y.2)∧zaw nw x L=some (.go ()))∨((¬ ∀ y∈L,zoA g c y.2)∧zaw nw x L=some (.ret false))
 | [],_=>.inl ⟨fun _ h=>(nomatch h),rfl⟩
 | y :: L,h=>by
  unfold zaw;have hy:=h y qap;rw[hg,zax];rcases ziT hy (y.2.length+2) 0 g (qay _) (by omega) (by omega)with⟨zs,e,hs,e3⟩| ⟨e1,e3⟩
  ·rw[show((0:Nat):Int)=0 from rfl]at e3;rw[qaS]at e;rw[e3,qaa];simp only[];rw[hc,e,zaq];by_cases c1:zs.length=c
   ·rw[show(((zs.length:Nat):Int)==(c:Int))=true by simp[c1],cond_true,qaa];by_cases c2:zs.sum=g
    ·rw[c2,qbU,show(!(((0:Nat):Int)== 0))=false from rfl,cond_false];rcases ziN hg hg2 hc L fun y hy=>h y (qal _ hy)with⟨g1,g2⟩| ⟨g1,g2⟩
     ·refine .inl ⟨fun z hz=>?_,g2⟩;rcases qaL.1 hz with rfl | hz
      ·exact⟨zs,e,c1,c2⟩
      exact g1 z hz
     exact .inr ⟨fun hh=>g1 fun z hz=>hh z (qal _ hz),g2⟩
    rw[show(!(((g - zs.sum:Nat):Int)== 0))=true by simp; omega,cond_true];refine .inr ⟨fun hh=>?_,rfl⟩;obtain⟨zs',e',_,h7⟩:=hh y qap;rw[e]at e';have:zs=zs':=zkK e';exact c2 (by rw[this,h7])
   rw[show(((zs.length:Nat):Int)==(c:Int))=false by simp; omega,cond_false,qaa,cond_true];refine .inr ⟨fun hh=>?_,rfl⟩;obtain⟨zs',e',h6,_⟩:=hh y qap;rw[e]at e';have:=congrArg List.length e';rw[zaq,zaq]at this;omega
  rw[show((0:Nat):Int)=0 from rfl]at e3;rw[qaS]at e1;rw[e3,qaa];refine .inr ⟨fun hh=>e1 ?_,rfl⟩;obtain⟨zs,e,h6,h7⟩:=hh y qap;exact⟨zs,e,by omega⟩
theorem zo2(cs:List Nat)(c:Nat):zai (cs ++ [c])=zai cs * c:=by
 induction cs with
 | nil=>simp[zai]
 | cons x xs ih=>show x * zai (xs ++ [c])=x * zai xs * c; rw[ih,qbw]
theorem zma{cs:List Nat}(h:∀ c∈cs,1≤c∧c≤4)(hl:cs.length≤8):zai cs≤65536:=
 qas (zgA (m:=4) (by omega) fun x hx=>(h x hx).2) (qas (qbu (by decide) hl) (by decide))
theorem znj{d:S_api_Net}(hn:d.nodes.length≤8):∀(n:Nat) (xs ys:List S_api_Node) (cs:List Nat),xs ++ ys=d.nodes→xs.map (·.card)=iL cs→(∀ c∈cs,1≤c∧c≤4)→ys.length<n →
  zbA d n ((zai cs:Nat):Int) (xs.length:Int) (iL (cs ++ List.replicate ys.length 0))=some (.ret (ztK,50))∨
  ∃ cs':List Nat,d.nodes.map (·.card)=iL cs'∧(∀ c∈cs',1≤c∧c≤4)∧zbA d n ((zai cs:Nat):Int) (xs.length:Int) (iL (cs ++ List.replicate ys.length 0))=some (.go (((zai cs':Nat):Int),iL cs'))
 | 0,_,_,_,_,_,_,h=>absurd h (qam _)
 | n+1,xs,[],cs,h1,h2,h4,h3=>by
  unfold zbA;rw[qaN]at h1;subst h1;rw[zar,decide_eq_false (by omega),cond_false];exact .inr ⟨cs,h2,h4,by simp⟩
 | n+1,xs,y :: ys,cs,h1,h2,h4,h3=>by
  unfold zbA;have hxl:cs.length=xs.length:=by have:=congrArg List.length h2; simpa [zaq]using this.symm
  have hxn:xs.length<d.nodes.length:=by rw[← h1]; simp
  have hy:d.nodes[xs.length]=y:=by simp[← h1]
  rw[zar,decide_eq_true hxn,cond_true,zaJ hxn,qaa,hy];by_cases c1:y.card<1
  ·rw[decide_eq_true c1,cond_true,qaa,cond_true];exact .inl rfl
  by_cases c2:4<y.card
  ·rw[decide_eq_false c1,cond_false,decide_eq_true c2,qaa,cond_true];exact .inl rfl
  obtain⟨c,hc⟩:∃ c:Nat,y.card=(c:Int):=⟨y.card.toNat,by omega⟩;have h4':∀ z∈cs ++ [c],1≤z∧z≤4:=fun z hz=>by
   rcases qbl.1 hz with hz | hz
   ·exact h4 z hz
   rw[qa0.1 hz]; omega
  have hb:zai (cs ++ [c])≤65536:=zma h4' (by simp; omega);have ih:=znj hn n (xs ++ [y]) ys (cs ++ [c]) (by rw[← h1]; simp) (by rw[qba,h2]; simp[iL,hc]) h4' (by simp at h3; omega);have hcx:((xs.length:Nat):Int)=((cs.length:Nat):Int):=by rw[hxl]
  rw[decide_eq_false c1,cond_false,decide_eq_false c2,qaa,cond_false,qaD,qa6,hcx,zdp,qaa,hc,zfA,qaa,← qa4,← zo2,zaA (by omega),zao (by omega)];rw[show(xs ++ [y]).length=cs.length+1 by simp[hxl],show cs ++ [c]++ List.replicate ys.length 0=cs ++ c :: List.replicate ys.length 0 by simp]at ih;exact ih
theorem zhR{p:List Nat→Prop}:∀ {rows:List (List Int)},(∀ r∈rows,∃ zs:List Nat,r=iL zs∧p zs)→∃ zss:List (List Nat),rows=zss.map iL∧∀ zs∈zss,p zs
 | [],_=>⟨[],rfl,fun _ h=>nomatch h⟩
 | r :: rows,h=>by
  obtain⟨zs,e,h1⟩:=h r qap;obtain⟨zss,e2,h2⟩:=zhR (rows:=rows) fun r hr=>h r (qal _ hr)
  refine⟨zs :: zss,by rw[e,e2]; rfl,fun z hz=>?_⟩;rcases qaL.1 hz with rfl | hz
  ·exact h1
  exact h2 z hz
theorem zsQ{g c:Nat}{cs ps:List Nat}{nodes:List S_api_Node}{sets order:List Int}{x:S_api_Node}(hg2:g≤60)(hc:x.card=(c:Int))(hps:x.parents=iL ps)(hp:Pl cs.length ps)(hl:ps.length≤8)(hcs:∀ p∈ps,1≤cs.getD p 0)
  (hm:zai (ps.map fun p=>cs.getD p 0)≤65536) (hrl:x.rows.length≤1000) (hrr:∀ r∈x.rows,r.length≤1000):
  zaN ⟨⟨(g:Int),nodes⟩,iL cs,sets,order⟩ x=some false∨zaN ⟨⟨(g:Int),nodes⟩,iL cs,sets,order⟩ x=some true∧∃ rows,x.rows=rows.map iL∧RowsOk g c (zai (ps.map fun p=>cs.getD p 0)) rows:=by
 unfold zaN;have e:=zhD (x:=x) (nodes:=⟨(g:Int),nodes⟩) (sets:=sets) (order:=order) hps hp hl hcs (ps.length+2) 0 1 (qay _) (by simpa using hm) (by omega);rw[show((0:Nat):Int)=0 from rfl,show((1:Nat):Int)=1 from rfl,qaS,qbq]at e;rw[hps,zaq,zax,e,qaa];by_cases c1:x.rows.length=zai (ps.map fun p=>cs.getD p 0)
 ·rw[show(((x.rows.length:Nat):Int)==((zai (ps.map fun p=>cs.getD p 0):Nat):Int))=true by rw[c1]; simp,cond_true];unfold zdI;rw[qaa];have hs:ze0 x.rows=some ():=by
   unfold ze0;rw[if_pos (by omega)]
  rw[hs,qaa];have hz:∀ y:Int×List Int,y∈znT x.rows→y.2∈x.rows:=by
   intro y hy;unfold znT at hy;obtain⟨q,hq,rfl⟩:=qaG.1 hy;have:=List.mem_zipIdx' hq;rw[this.2]; exact qaq _
  rcases ziN (g:=g) (c:=c) (nw:=⟨⟨(g:Int),nodes⟩,iL cs,sets,order⟩) (x:=x) rfl hg2 hc (znT x.rows) (fun y hy=>hrr _ (hz y hy))with⟨g1,g2⟩| ⟨g1,g2⟩
  ·rw[g2,qaa];refine .inr ⟨rfl,?_⟩;obtain⟨rows,e1,e2⟩:=zhR (p:=fun zs=>zs.length=c∧zs.sum=g) (rows:=x.rows) fun r hr=>by
    obtain⟨i,hi,rfl⟩:=qbZ.1 hr;obtain⟨zs,h1,h2,h3⟩:=g1 ((i:Int),x.rows[i]) (qaG.2 ⟨(x.rows[i],i),List.mk_mem_zipIdx_iff_getElem?.2 (qad hi),rfl⟩);exact⟨zs,h1,h2,h3⟩
   exact⟨rows,e1,by rw[← c1,e1,qaw],e2⟩
  rw[g2,qaa];exact .inl rfl
 rw[show(((x.rows.length:Nat):Int)==((zai (ps.map fun p=>cs.getD p 0):Nat):Int))=false by rw[beq_eq_false_iff_ne]; omega,cond_false];exact .inl rfl
structure NdOk (g:Nat) (cs:List Nat) (z:NN):Prop where
 inc:z.ps.Pairwise (· < ·)
 lt:∀ p∈z.ps,p<cs.length
 rows:RowsOk g z.c (zai (z.ps.map fun p=>cs.getD p 0)) z.rows
theorem PsV.zyf{m v:Nat}{ps:List Int}(h:PsV m v (-1) ps):∃ qs:List Nat,ps=iL qs∧qs.Pairwise (· < ·)∧(∀ q∈qs,q<m)∧∀ q∈qs,q≠v:=by
 obtain⟨h1,h2⟩:=PsV.iff.1 h;obtain⟨qs,e,g1,_,g3⟩:=h1.zyf (by omega);refine⟨qs,e,g1,g3,fun q hq he=>?_⟩;exact h2 (q:Int) (by rw[e]; exact qaG.2 ⟨q,hq,rfl⟩) (by rw[he])
structure BndX (k:Nat) (x:S_api_Node):Prop where
 par:x.parents.length≤k
 rows:x.rows.length≤k
 row:∀ r∈x.rows,r.length≤k
structure BndK (k:Nat) (d:S_api_Net):Prop where
 nodes:d.nodes.length≤k
 node:∀ x∈d.nodes,BndX k x
theorem BndX.mono{k m:Nat}{x:S_api_Node}(h:BndX k x)(hk:k≤m):BndX m x:=⟨qas h.par hk,qas h.rows hk,fun r hr=>qas (h.row r hr) hk⟩
theorem BndK.mono{k m:Nat}{d:S_api_Net}(h:BndK k d)(hk:k≤m):BndK m d:=⟨qas h.nodes hk,fun x hx=>(h.node x hx).mono hk⟩
abbrev Bnd(d:S_api_Net):Prop:=BndK 1000 d
theorem znw{g:Nat}{cs:List Nat}{d:S_api_Net}(hg:d.grain=(g:Int))(hg2:g≤60)(hb:Bnd d)(hn:d.nodes.length≤8)(hcs:d.nodes.map (·.card)=iL cs)(hc:∀ c∈cs,1≤c∧c≤4):∀(n:Nat) (zs:List NN) (ys:List S_api_Node),zs.map nd ++ ys=d.nodes →
  (∀ z∈zs,NdOk g cs z)→ys.length<n →
  zby d (iL cs) n (zs.length:Int) (iL (zs.map (fun x=>zbh x.ps)++ List.replicate ys.length 0))=some (.ret (ztK,50))∨
  ∃ ns:List NN,d.nodes=ns.map nd∧(∀ z∈ns,NdOk g cs z)∧zby d (iL cs) n (zs.length:Int) (iL (zs.map (fun x=>zbh x.ps)++ List.replicate ys.length 0))=some (.go (iL (zas ns)))
 | 0,_,_,_,_,h=>absurd h (qam _)
 | n+1,zs,[],h1,h2,h3=>by
  unfold zby
  rw[qaN]at h1;rw[← h1,qaw,zar,decide_eq_false (by omega),cond_false];exact .inr ⟨zs,rfl,h2,by simp[zas]⟩
 | n+1,zs,y :: ys,h1,h2,h3=>by
  unfold zby
  have hxn:zs.length<d.nodes.length:=by rw[← h1]; simp
  have hy:d.nodes[zs.length]=y:=by simp[← h1]
  have hym:y∈d.nodes:=by rw[← h1]; simp
  have hcl:cs.length=d.nodes.length:=by have:=congrArg List.length hcs; simpa [zaq]using this.symm
  have hyc:y.card=((cs[zs.length]'(by omega):Nat):Int):=by
   have:(d.nodes.map (·.card))[zs.length]'(by simpa using hxn)=(iL cs)[zs.length]'(by rw[zaq]; omega):=by simp only[hcs]
   rw[qcs,hy,ztT (by omega)]at this;exact this
  obtain⟨c,hcc⟩:∃ c,cs[zs.length]'(by omega)=c:=⟨_,rfl⟩;rw[hcc]at hyc;rw[zar,decide_eq_true hxn,cond_true,zaJ hxn,qaa,hy,qaD,qa6,zax];have e3:=zow (v:=zs.length) (ns:=d) (x:=y) (xs:=zs.map fun x=>zbh x.ps) (ys:=List.replicate ys.length 0) hn (by simp) (hb.node y hym).par (y.parents.length+2) 0 0 (-1) (by omega) (qay _) (by decide) (by omega);rw[show((0:Nat):Int)=0 from rfl,qaS]at e3;rcases e3 with⟨g1,qs,g2,g3⟩| ⟨g1,g2⟩
  ·rw[g3,qaa];simp only[];rw[show(qs.foldl (fun m p=>m ||| 2 ^ p) 0)=zbh qs from rfl];obtain⟨qs',e,k1,k2,k3⟩:=g1.zyf;have:qs'=qs:=zkK (by rw[← e,← g2]);subst this;have hps:∀ p∈qs',p<cs.length:=fun p hp=>by rw[hcl]; exact k2 p hp
   have hq4:∀ p∈qs',1≤cs.getD p 0∧cs.getD p 0≤4:=fun p hp=>by
    have h6:=hps p hp;rw[show cs.getD p 0=cs[p] by simp[h6]];exact hc _ (qaq h6)
   have hql:qs'.length≤8:=by have:=zfK k1 k2; omega
   obtain⟨G,ds⟩:=d;simp only at hg hn hcs hb hxn hy hym hcl h1 ⊢;subst hg;rcases zsQ (g:=g) (c:=c) (cs:=cs) (ps:=qs') (nodes:=ds) (sets:=iL (zs.map (fun x=>zbh x.ps)++ zbh qs' :: List.replicate ys.length 0)) (order:=[]) (x:=y) hg2 hyc g2 hps hql (fun p hp=>(hq4 p hp).1)
    (zma (fun z hz=>by obtain⟨p,hp,rfl⟩:=qaG.1 hz; exact hq4 p hp) (by simpa using hql)) (hb.node y hym).rows (hb.node y hym).row with e4 | ⟨e4,rows,r1,r2⟩
   ·rw[e4,qaa,cond_false];exact .inl rfl
   have hnd:nd ⟨c,qs',rows⟩=y:=by
    cases y;simp only at hyc g2 r1;simp only[nd,hyc,g2,r1]
   have ih:=znw (d:=⟨(g:Int),ds⟩) rfl hg2 hb hn hcs hc n (zs ++ [⟨c,qs',rows⟩]) ys (by rw[← h1,qba,← hnd]; simp) (fun z hz=>by
    rcases qbl.1 hz with hz | hz
    ·exact h2 z hz
    rw[qa0.1 hz]; exact⟨k1,hps,r2⟩) (by simp at h3; omega)
   rw[e4,qaa,cond_true,zao (by omega)];rw[show(zs ++ [(⟨c,qs',rows⟩:NN)]).length=zs.length+1 by simp,show(zs ++ [(⟨c,qs',rows⟩:NN)]).map (fun x=>zbh x.ps)++ List.replicate ys.length 0=zs.map (fun x=>zbh x.ps)++ zbh qs' :: List.replicate ys.length 0 by simp]at ih;exact ih
  rw[g2,qaa];exact .inl rfl
theorem ziD{ms os:List Nat}{mask C:Nat}(hn:ms.length≤8)(hm:∀ m∈ms,m<18446744073709551616)(hk:mask<18446744073709551616)(hC:os.length+1≤C):∀(n i:Nat),i≤ms.length→(∀ u,u<i→¬ zgN ms mask u)→ms.length - i<n →
  ((∀ u,u<ms.length→¬ zgN ms mask u)∧zbe (iL ms) (mask:Int) C n (i:Int) (iL os)=some (.go ()))∨
  ∃ v,First ms mask v∧zbe (iL ms) (mask:Int) C n (i:Int) (iL os)=some (.brk (((mask ||| 2 ^ v:Nat):Int),iL (os ++ [v])))
 | 0,_,_,_,h=>absurd h (qam _)
 | n+1,i,h1,h2,h3=>by
  by_cases hi:i<ms.length
  ·obtain⟨b,hb,e,_⟩:=zlL hm hk hi (by omega) (iL os);cases b with
   | true=>
    have hf:First ms mask i:=⟨hi,hb.1 rfl,h2⟩;exact .inr ⟨i,hf,zhY hn hm hk hC hf (n+1) i (qaj _) (by omega)⟩
   | false=>
    have hno:¬ zgN ms mask i:=fun h=>by have:=hb.2 h; cases this
    have ih:=ziD hn hm hk hC n (i+1) hi (fun u hu=>by
     by_cases hui:u=i
     ·rw[hui]; exact hno
     exact h2 u (by omega)) (by omega)
    unfold zbe;rw[zaq,zar,decide_eq_true hi,cond_true,za2 hi,qaa,e,qaa];simp only[];rw[cond_false,zao (by omega)];exact ih
  refine .inl ⟨fun u hu=>h2 u (by omega),?_⟩;unfold zbe;rw[zaq,zar,decide_eq_false hi,cond_false]
theorem ziA{ms:List Nat}(hn:ms.length≤8)(hm:∀ m∈ms,m<18446744073709551616):∀(n:Nat) (os:List Nat),zc9 ms os→os.length≤ms.length→ms.length - os.length<n →
  zbp (iL ms) ms.length n ((zbh os:Nat):Int) (iL os)=some (.ret ([],false))∨
  ∃ os',zc9 ms os'∧os'.length=ms.length∧zbp (iL ms) ms.length n ((zbh os:Nat):Int) (iL os)=some (.go (iL os'))
 | 0,_,_,_,h=>absurd h (qam _)
 | n+1,os,h1,h2,h3=>by
  unfold zbp;rw[zaq,zaq,zar];by_cases hl:os.length<ms.length
  ·have hk:zbh os<18446744073709551616:=Go.Dc.zeC fun x hx=>by
    have:=h1.lt x hx;omega
   rw[decide_eq_true hl,cond_true,zax];rcases ziD (os:=os) (C:=ms.length) hn hm hk (by omega) (ms.length+2) 0 (qay _) (fun u hu=>absurd hu (qam _)) (by omega)with⟨g1,g2⟩| ⟨v,g1,g2⟩
   ·rw[show((0:Nat):Int)=0 from rfl]at g2;rw[g2,qaa];exact .inl rfl
   rw[show((0:Nat):Int)=0 from rfl]at g2;rw[g2,qaa];simp only[];rw[← znI];exact ziA hn hm n (os ++ [v]) (h1.app g1) (by simp; omega) (by simp; omega)
  exact .inr ⟨os,h1,by omega,by rw[decide_eq_false hl,cond_false]⟩
theorem zsw{ms:List Nat}(hn:ms.length≤8)(hm:∀ m∈ms,m<18446744073709551616):
  zb0 (iL ms)=some ([],false)∨∃ os,zc9 ms os∧os.length=ms.length∧zb0 (iL ms)=some (iL os,true):=by
 unfold zb0;rw[zaq];have hcap:ztW 8 ((ms.length:Nat):Int)=some ms.length:=by
  unfold ztW;rw[if_pos ⟨qbs _,by simp only[zac]; omega⟩,qaF]
 rw[hcap,qaa,show(((ms.length:Nat):Int) - ((([]:List Int).length:Nat):Int)+2).toNat=ms.length+2 by simp; omega];have e:=ziA hn hm (ms.length+2) [] (fun k v hk=>by simp at hk) (qay _) (by simp);rw[show((zbh []:Nat):Int)=0 from rfl,show iL []=[]from rfl]at e;rcases e with e | ⟨os,g1,g2,e⟩
 ·rw[e,qaa]; exact .inl rfl
 rw[e,qaa]; exact .inr ⟨os,g1,g2,rfl⟩
theorem zuW{d:S_api_Net}(hb:Bnd d):zdl d=some (ztK,50)∨∃ g ns,d=zcx g ns∧RightN g ns:=by
 unfold zdl;by_cases c1:d.grain<1
 ·rw[decide_eq_true c1,cond_true,qaa,cond_true]; exact .inl rfl
 by_cases c2:60<d.grain
 ·rw[decide_eq_false c1,cond_false,decide_eq_true c2,cond_true,qaa,cond_true]; exact .inl rfl
 by_cases c3:(d.nodes.length:Int)<1
 ·rw[decide_eq_false c1,cond_false,decide_eq_false c2,cond_false,decide_eq_true c3,cond_true,qaa,cond_true]; exact .inl rfl
 by_cases c4:8<(d.nodes.length:Int)
 ·rw[decide_eq_false c1,cond_false,decide_eq_false c2,cond_false,decide_eq_false c3,cond_false,decide_eq_true c4,qaa,cond_true]; exact .inl rfl
 rw[decide_eq_false c1,cond_false,decide_eq_false c2,cond_false,decide_eq_false c3,cond_false,decide_eq_false c4,qaa,cond_false];have hn:d.nodes.length≤8:=by omega
 have hz:List.replicate d.nodes.length (0:Int)=iL (List.replicate d.nodes.length 0):=by simp[iL]
 rw[zey (by omega),qaa,qaa,zax,hz];have e1:=znj hn (d.nodes.length+2) [] d.nodes [] rfl rfl (fun _ h=>nomatch h) (by omega);simp only[qa5,qaK]at e1;rw[show((0:Nat):Int)=0 from rfl,show((zai []:Nat):Int)=1 from rfl]at e1;rcases e1 with e1 | ⟨cs,h1,h2,e1⟩
 ·rw[e1,qaa]; exact .inl rfl
 rw[e1,qaa];simp only[];by_cases c5:(1024:Int)<((zai cs:Nat):Int)
 ·rw[decide_eq_true c5,cond_true]; exact .inl rfl
 rw[decide_eq_false c5,cond_false];obtain⟨g,hg⟩:∃ g:Nat,d.grain=(g:Int):=⟨d.grain.toNat,by omega⟩;have e2:=znw hg (by omega) hb hn h1 h2 (d.nodes.length+2) [] d.nodes rfl (fun _ h=>nomatch h) (by omega);simp only[qbI,qa5,qaK]at e2;rw[show((0:Nat):Int)=0 from rfl]at e2;rcases e2 with e2 | ⟨ns,h3,h4,e2⟩
 ·rw[e2,qaa]; exact .inl rfl
 rw[e2,qaa];simp only[];have hnl:ns.length=d.nodes.length:=by rw[h3,qaw]
 have hcs:ns.map (·.c)=cs:=by
  apply zkK;rw[← h1,h3];simp[iL,nd,qbi]
 have hml:(zas ns).length=ns.length:=by simp[zas]
 have hlt:∀ x∈ns,∀ p∈x.ps,p<ns.length:=fun x hx p hp=>by
  have:=(h4 x hx).lt p hp;rw[← hcs,qaw]at this;exact this
 have hmm:∀ m∈zas ns,m<18446744073709551616:=by
  intro m hm;obtain⟨x,hx,rfl⟩:=qaG.1 hm;refine Go.Dc.zeC fun p hp=>?_
  have:=hlt x hx p hp;omega
 rcases zsw (ms:=zas ns) (by omega) hmm with e3 | ⟨os,k1,k2,e3⟩
 ·rw[e3,qaa]; simp only[]; rw[cond_false]; exact .inl rfl
 refine .inr ⟨g,ns,?_,?_⟩
 ·obtain⟨G,ds⟩:=d;simp only at hg h3;rw[hg,h3]; rfl
 refine⟨by omega,by omega,by omega,by omega,fun x hx=>h2 _ (by rw[← hcs]; exact qaG.2 ⟨x,hx,rfl⟩),by rw[hcs]; omega,fun x hx=>(h4 x hx).inc,hlt,fun x hx=>by rw[hcs]; exact(h4 x hx).rows,?_⟩;refine⟨fun v=>os.idxOf v,fun v=>?_,fun v x hv p hp=>?_⟩
 ·have:=List.idxOf_le_length (a:=v) (l:=os); simp only; omega
 have hvl:=(qab.1 hv).1;refine k1.zy8 k2 v p (by omega) ?_;rw[show(zas ns).getD v 0=zbh x.ps by simp[zas,qav,hv],zcJ];exact decide_eq_true hp
theorem BndX.fit{x:S_api_Node}(h:BndX 1000 x):FitN x:=⟨by have:=h.par; simp only[zac]; omega,by have:=h.rows; simp only[zac]; omega,fun r hr=>by have:=h.row r hr; simp only[zac]; omega⟩
theorem BndK.set{k t:Nat}{g:Int}{d:S_api_Net}{y:S_api_Node}(h:BndK k d)(hy:BndX k y):BndK k ⟨g,d.nodes.set t y⟩:=
 ⟨by simpa using h.nodes,fun x hx=>by
  rcases qcf hx with hx | hx
  ·exact h.node x hx
  rw[hx]; exact hy⟩
theorem zuJ{n:Nat}:∀ {r:List Int} (i k:Nat) (hi:k+1≤r.length) (h3:k+1 - i<n) (hl:r.length≤1000),i≤k+1→∃ r2,swL n (i:Int) (k:Int) r=some r2∧r2.length=r.length:=by
 induction n with
 | zero=>intro r i k hi h3; exact absurd h3 (qam _)
 | succ n ih=>
  intro r i k hi h3 hl h4;unfold swL;rw[zar];by_cases hik:i<k
  ·rw[decide_eq_true hik,cond_true,zaJ (by omega),qaa,zaJ (by omega),qaa,zeF (by omega),qaa,zeF (by simp; omega),qaa,zao (by omega),
    show w64 ((k:Int) - 1)=((k - 1:Nat):Int) by rw[zgT (by omega) (by omega)]; omega]
   obtain⟨r2,e,h5⟩:=ih (r:=(r.set i (r[k]'(by omega))).set k (r[i]'(by omega))) (i+1) (k - 1) (by simp; omega) (by omega) (by simpa using hl) (by omega);exact⟨r2,e,by simpa using h5⟩
  rw[decide_eq_false hik,cond_false];exact⟨r,rfl,rfl⟩
theorem zwF{r:List Int}(hl:r.length≤1000):∃ r2,swL (r.length+2) 0 (w64 ((r.length:Int) - 1)) r=some r2∧r2.length=r.length:=by
 by_cases h0:r.length=0
 ·have:r=[]:=qau h0;subst this;exact⟨[],rfl,rfl⟩
 rw[show w64 ((r.length:Int) - 1)=((r.length - 1:Nat):Int) by rw[zgT (by omega) (by omega)]; omega];exact zuJ (n:=r.length+2) 0 (r.length - 1) (by omega) (by omega) hl (by omega)
theorem zea{K:Nat}{b:S_haruspexref05_Bend}{n:S_api_Net}{x:S_api_Node}{t:Nat}(hb:BndK K n)(hx:BndX K x):∀ k,(k≤4∨k=10∨k=11)→∃ r,zs3 b n x t k=some r∧BndK (K+1) r:=by
 have hb':=hb.mono (m:=K+1) (by omega);have hx':=hx.mono (m:=K+1) (by omega);rintro k (hk | rfl | rfl)
 ·match k,hk with
  | 0,_=>exact⟨_,rfl,⟨hb'.nodes,hb'.node⟩⟩
  | 1,_=>exact⟨_,rfl,hb'.set ⟨hx'.par,hx'.rows,hx'.row⟩⟩
  | 2,_=>exact⟨_,rfl,hb'.set ⟨by have:=hx.par; simp; omega,hx'.rows,hx'.row⟩⟩
  | 3,_=>exact⟨_,rfl,hb'.set ⟨by simp,hx'.rows,hx'.row⟩⟩
  | 4,_=>exact⟨_,rfl,hb'.set ⟨hx'.par,by have:=hx.rows; simp; omega,fun r hr=>by
    rcases qbl.1 hr with hr | hr
    ·exact hx'.row r hr
    rw[qa0.1 hr]; simp⟩⟩
 ·refine⟨_,rfl,⟨by have:=hb.nodes; simp; omega,fun y hy=>?_⟩⟩;rcases qbl.1 hy with hy | hy
  ·exact hb'.node y hy
  rw[qa0.1 hy];exact⟨by simp,by simp,fun r hr=>by rw[qa0.1 hr]; simp⟩
 exact⟨_,rfl,⟨by have:=hb'.nodes; simp; omega,fun y hy=>hb'.node y (qcG hy)⟩⟩
theorem BndX.zyo{K:Nat}{w:Nat}{c:Int}{x:S_api_Node}{y:List Int}(hx:BndX (K+1) x)(hy:y.length≤K+1):BndX (K+1) ⟨c,x.parents,x.rows.set w y⟩:=
 ⟨hx.par,by simpa using hx.rows,fun r hr=>by
  rcases qcf hr with hr | hr
  ·exact hx.row r hr
  rw[hr]; exact hy⟩
theorem zsx{K:Nat}{b:S_haruspexref05_Bend}{n:S_api_Net}{x:S_api_Node}{t w:Nat}{row:List Int}(hb:BndK K n)(hx:BndX K x)(hr:row.length≤K)(hK:K≤200):∀ k,k<12→∃ r,zqu b n x t w row k=some r∧BndK (K+1) r:=by
 have hb':=hb.mono (m:=K+1) (by omega);have hx':=hx.mono (m:=K+1) (by omega);intro k hk
 match k,hk with
 | 0,_=>exact zea (b:=b) (t:=t) hb hx 0 (by omega)
 | 1,_=>exact zea (b:=b) (t:=t) hb hx 1 (by omega)
 | 2,_=>exact zea (b:=b) (t:=t) hb hx 2 (by omega)
 | 3,_=>exact zea (b:=b) (t:=t) hb hx 3 (by omega)
 | 4,_=>exact zea (b:=b) (t:=t) hb hx 4 (by omega)
 | 5,_=>exact⟨_,rfl,hb'.set ⟨hx'.par,by have:=hx.rows; simp; omega,fun r hr=>hx'.row r (qcG hr)⟩⟩
 | 6,_=>
  refine⟨_,rfl,?_⟩;cases row.isEmpty with
  | true=>exact hb'
  | false=>exact hb'.set (hx'.zyo (by simp; omega))
 | 7,_=>exact⟨_,rfl,hb'.set (hx'.zyo (by simp; omega))⟩
 | 8,_=>
  refine⟨_,rfl,?_⟩;cases row.isEmpty with
  | true=>exact hb'
  | false=>exact hb'.set (hx'.zyo (by simp; omega))
 | 9,_=>
  obtain⟨r2,e,h2⟩:=zwF (r:=row) (by omega);refine⟨⟨n.grain,n.nodes.set t ⟨x.card,x.parents,x.rows.set w r2⟩⟩,?_,hb'.set (hx'.zyo (by omega))⟩;show((swL (row.length+2) 0 (w64 ((row.length:Int) - 1)) row).map fun r2=>(⟨n.grain,n.nodes.set t ⟨x.card,x.parents,x.rows.set w r2⟩⟩:S_api_Net))=_;rw[e]; rfl
 | 10,_=>exact zea (b:=b) (t:=t) hb hx 10 (by omega)
 | 11,_=>exact zea (b:=b) (t:=t) hb hx 11 (by omega)
theorem zoE{K:Nat}{b:S_haruspexref05_Bend}{n:S_api_Net}(h1:0≤b.what∧b.what≤255)(h2:0≤b.at_∧b.at_≤255)(h3:0≤b.row∧b.row≤255)(hb:BndK K n)(hK:K≤200:=by omega):∃ r,zky b n=some r∧BndK (K+1) r:=by
 unfold zky;rw[if_pos ⟨h1,h2,h3,by have:=hb.nodes; simp only[zac]; omega,fun x hx=>((hb.node x hx).mono (by omega)).fit⟩];have hk:=qbm b.what.toNat (show 12 > 0 by decide);generalize b.what.toNat % 12=k at hk ⊢;unfold zvM;split
 ·exact⟨_,rfl,hb.mono (by omega)⟩
 rename_i x hx;have hxm:=hb.node x (qaE hx);split
 ·cases hc:decide (5≤k) && decide (k≤9)with
  | true=>exact⟨_,rfl,hb.mono (by omega)⟩
  | false=>
   rw[cond_false];refine zea hb hxm k ?_;simp at hc;omega
 rename_i row hrow;exact zsx hb hxm (hxm.row row (qaE hrow)) hK k hk
theorem NetOk.bnd{num:List Nat}{g:Nat}{ns:List NN}(h:NetOk num g ns):BndK 100 (zcx g ns):=by
 refine⟨by have:=h.n2; simp[zcx]; omega,fun y hy=>?_⟩;obtain⟨x,hx,rfl⟩:=qaG.1 hy;obtain⟨v,hv,rfl⟩:=qbZ.1 hx;obtain⟨j,hj,hjv⟩:=qbZ.1 (h.perm.all v hv);have hn:=h.node j v ns[v] (by rw[qad hj,hjv]) (qad hv);have h3:=hn.par.len;have hc:=h.card ns[v] hx;have hm:zai (ns[v].ps.map fun p=>(ns.map (·.c)).getD p 0)≤64:=by
  refine qas (zgA (m:=4) (by omega) fun z hz=>?_) ?_
  ·obtain⟨p,hp,rfl⟩:=qaG.1 hz;by_cases hpl:p<ns.length
   ·have:=h.card ns[p] (qaq hpl);simpa [hpl]using this.2
   simp[qav,show ns[p]? = none from qbd (by omega)]
  rw[qaw];exact qas (qbu (by decide) h3) (by decide)
 refine⟨by simp[nd,zaq]; omega,by show(ns[v].rows.map iL).length≤100; rw[qaw,hn.rows.len]; omega,fun r hr=>?_⟩;obtain⟨zs,hz,rfl⟩:=qaG.1 (show r∈ns[v].rows.map iL from hr);rw[zaq,(hn.rows.row zs hz).1]; omega
def upS(ms:List Nat)(s v:Nat):Nat:=if s.testBit v then s ||| ms.getD v 0 else s
def upR(ms:List Nat)(s:Nat):Nat:=(List.range ms.length).foldl (upS ms) s
def EOk(ms:List Nat):Prop:=∀ v p,(ms.getD v 0).testBit p=true→v<ms.length∧p<ms.length
theorem Sub.zzQ{a:Nat}:Sub a a:=fun _ h=>h
theorem Sub.tr{a b c:Nat}(h1:Sub a b)(h2:Sub b c):Sub a c:=fun i h=>h2 i (h1 i h)
theorem Sub.zzT{a b:Nat}(h1:Sub a b)(h2:Sub b a):a=b:=by
 apply qc4;intro i;exact Bool.eq_iff_iff.2 ⟨h1 i,h2 i⟩
theorem zsh(ms:List Nat)(s v:Nat):Sub s (upS ms s v):=by
 intro i hi;unfold upS;split
 ·rw[qcW,hi,Bool.true_or]
 exact hi
theorem zjD{f:Nat→Nat→Nat}(h:∀ s v,Sub s (f s v)):∀(vs:List Nat) (s:Nat),Sub s (vs.foldl f s)
 | [],s=>Sub.zzQ
 | v :: vs,s=>(h s v).tr (zjD h vs (f s v))
theorem zob{f:Nat→Nat→Nat}(h:∀ s v,Sub s (f s v)):∀(vs:List Nat) (s:Nat),vs.foldl f s=s→∀ v∈vs,f s v=s
 | [],_,_,_,hv=>nomatch hv
 | v :: vs,s,he,u,hu=>by
  rw[qb4]at he;have h1:f s v=s:=Sub.zzT (by have:=zjD h vs (f s v); rw[he]at this; exact this) (h s v);rw[h1]at he;rcases qaL.1 hu with rfl | hu
  ·exact h1
  exact zob h vs s he u hu
theorem zjh{f:Nat→Nat→Nat}{P:Nat→Prop}(h:∀ s v,P s→P (f s v)):∀(vs:List Nat) (s:Nat),P s→P (vs.foldl f s)
 | [],_,h0=>h0
 | v :: vs,s,h0=>zjh h vs _ (h s v h0)
theorem zjC{f:Nat→Nat}{P:Nat→Prop}(h:∀ s,P s→P (f s))(s:Nat)(h0:P s):∀ k,P (iter f s k)
 | 0=>h0
 | k+1=>h _ (zjC h s h0 k)
theorem zn7{f:Nat→Nat}(h:∀ s,Sub s (f s))(s:Nat):∀ k,Sub s (iter f s k)
 | 0=>Sub.zzQ
 | k+1=>(zn7 h s k).tr (h _)
theorem zxu{ms:List Nat}(he:EOk ms){s:Nat}(hs:∀ x,s.testBit x=true→x<ms.length)(i:Nat):(iter (upR ms) s ms.length).testBit i=true↔∃ v,s.testBit v=true∧Reach ms v i:=by
 have hsub:∀ s,Sub s (upR ms s):=fun s=>zjD (zsh ms) _ s
 have hin:∀ s,(∀ x,s.testBit x=true→x<ms.length)→∀ x,(upR ms s).testBit x=true→x<ms.length:=fun s h=>zjh (P:=fun s=>∀ x,s.testBit x=true→x<ms.length) (fun s v h x hx=>by
  unfold upS at hx;split at hx
  ·rw[qcW]at hx;rcases Bool.or_eq_true_iff.1 hx with hx | hx
   ·exact h x hx
   exact(he v x hx).2
  exact h x hx) _ s h
 have hfix:upR ms (iter (upR ms) s ms.length)=iter (upR ms) s ms.length:=by
  rcases zg1 (n:=ms.length) (upR ms) hsub hin ms.length s hs with h | h
  ·exact h
  refine Sub.zzT (fun x hx=>?_) (hsub _);exact zvs h x (hin _ (zjC (P:=fun s=>∀ x,s.testBit x=true→x<ms.length) hin s hs _) x hx)
 have hclo:∀ v,(iter (upR ms) s ms.length).testBit v=true→Sub (ms.getD v 0) (iter (upR ms) s ms.length):=by
  intro v hv p hp;have h1:=zob (zsh ms) _ _ hfix v (qbr.2 (he v p hp).1);unfold upS at h1;rw[if_pos hv]at h1;rw[← h1,qcW,hp,Bool.or_true]
 constructor
 ·intro hi;refine zjC (f:=upR ms) (P:=fun t=>∀ i,t.testBit i=true→∃ v,s.testBit v=true∧Reach ms v i) (fun t ht=>?_) s (fun i hi=>⟨i,hi,.refl i⟩) ms.length i hi;refine zjh (P:=fun t=>∀ i,t.testBit i=true→∃ v,s.testBit v=true∧Reach ms v i) (fun t v ht i hi=>?_) _ t ht;unfold upS at hi;split at hi
  ·rename_i hv;rw[qcW]at hi;rcases Bool.or_eq_true_iff.1 hi with hi | hi
   ·exact ht i hi
   obtain⟨u,h1,h2⟩:=ht v hv;exact⟨u,h1,h2.tr (.step hi (.refl i))⟩
  exact ht i hi
 rintro⟨v,h1,h2⟩;exact zsy h2 (zn7 hsub s _ v h1) hclo
theorem zxq{v:Nat}(h:v<64):IntKind.u64.wrap (v:Int)=(v:Int):=zd3 (by omega)
theorem zvO{a v:Nat}(ha:a<18446744073709551616)(hv:v<64):zec (a:Int) (v:Int)=some (a.testBit v):=by
 obtain⟨q,h1,h2⟩:=zzG ha hv;unfold zec;rw[zxq hv,h1,qaa,h2];cases a.testBit v<;>rfl
theorem zxI{ms:List Nat}(hm:∀ m∈ms,m<18446744073709551616){s v:Nat}(hs:s<18446744073709551616):upS ms s v<18446744073709551616:=by
 unfold upS;split
 ·exact qck (n:=64) hs (zke hm v)
 exact hs
theorem zw6{ms:List Nat}(hn:ms.length≤60)(hm:∀ m∈ms,m<18446744073709551616):∀(k n v s:Nat),v+k=ms.length→s<18446744073709551616→k<n →
  zdZ (iL ms) n (s:Int) (v:Int)=some (((List.range' v k).foldl (upS ms) s:Nat):Int)∧(List.range' v k).foldl (upS ms) s<18446744073709551616
 | k,0,_,_,_,_,h=>absurd h (qam _)
 | 0,n+1,v,s,h1,hs,_=>by
  refine⟨?_,hs⟩;unfold zdZ;rw[zaq,zar,decide_eq_false (by omega),cond_false];rfl
 | k+1,n+1,v,s,h1,hs,h3=>by
  have hv:v<ms.length:=by omega
  obtain⟨g1,g2⟩:=zw6 hn hm k n (v+1) (upS ms s v) (by omega) (zxI hm hs) (by omega);refine⟨?_,g2⟩;unfold zdZ;rw[zaq,zar,decide_eq_true hv,cond_true,zvO hs (by omega),qaa,zao (by omega),qc3,qb4];cases hb:s.testBit v with
  | true=>
   rw[cond_true,zqI hv,qaa,orU hs (zke hm v),qaa,← g1];unfold upS;rw[if_pos hb]
  | false=>
   rw[cond_false,qaa,← g1];unfold upS;rw[if_neg (by rw[hb]; decide)]
theorem zpu(f:Nat→Nat)(s k:Nat):iter f s (k+1)=iter f (f s) k:=by
 induction k with
 | zero=>rfl
 | succ k ih=>show f (iter f s (k+1))=f (iter f (f s) k); rw[ih]
theorem zxw{ms:List Nat}(hn:ms.length≤60)(hm:∀ m∈ms,m<18446744073709551616):∀(k n v s:Nat),v+k=ms.length→s<18446744073709551616→k<n →
  zdV (iL ms) n (s:Int) (v:Int)=some ((iter (upR ms) s k:Nat):Int)∧iter (upR ms) s k<18446744073709551616
 | k,0,_,_,_,_,h=>absurd h (qam _)
 | 0,n+1,v,s,h1,hs,_=>by
  refine⟨?_,hs⟩;unfold zdV;rw[zaq,zar,decide_eq_false (by omega),cond_false];rfl
 | k+1,n+1,v,s,h1,hs,h3=>by
  have hv:v<ms.length:=by omega
  obtain⟨e1,e2⟩:=zw6 hn hm ms.length (ms.length+2) 0 s (by omega) hs (by omega);rw[← List.range_eq_range']at e1 e2;obtain⟨g1,g2⟩:=zxw hn hm k n (v+1) (upR ms s) (by omega) e2 (by omega);rw[zpu];refine⟨?_,g2⟩;unfold zdV;rw[show((0:Nat):Int)=0 from rfl]at e1;rw[zaq,zar,decide_eq_true hv,cond_true,zax,e1,qaa,zao (by omega)];exact g1
theorem zyy{ms:List Nat}{s:Nat}(hn:ms.length≤60)(hm:∀ m∈ms,m<18446744073709551616)(hs:s<18446744073709551616):
  zgq (iL ms) (s:Int)=some ((iter (upR ms) s ms.length:Nat):Int)∧iter (upR ms) s ms.length<18446744073709551616:=by
 obtain⟨e1,e2⟩:=zxw hn hm ms.length (ms.length+2) 0 s (by omega) hs (by omega);refine⟨?_,e2⟩;rw[show((0:Nat):Int)=0 from rfl]at e1;unfold zgq;rw[zaq,zax,e1,qaa]
def zme(ms:List Nat)(v:Nat):Prop:=∀ p,(ms.getD v 0).testBit p=true→¬ Reach ms p v
theorem zwO{ms:List Nat}(hn:ms.length≤60)(hm:∀ m∈ms,m<18446744073709551616)(he:EOk ms):∀(n v:Nat),v≤ms.length→ms.length - v<n →
  ((∀ u,v≤u→u<ms.length→zme ms u)∧zbI (iL ms) n (v:Int)=some (.go ()))∨((∃ u,u<ms.length∧¬ zme ms u)∧zbI (iL ms) n (v:Int)=some (.ret false))
 | 0,_,_,h=>absurd h (qam _)
 | n+1,v,h1,h3=>by
  unfold zbI;rw[zaq,zar];by_cases hv:v<ms.length
  ·obtain⟨e1,e2⟩:=zyy hn hm (zke hm v);have hb:=zxu he (s:=ms.getD v 0) (fun x hx=>(he v x hx).2) v;rw[decide_eq_true hv,cond_true,zqI hv,qaa,e1,qaa,zvO e2 (by omega),qaa];cases hc:(iter (upR ms) (ms.getD v 0) ms.length).testBit v with
   | true=>
    obtain⟨p,h6,h7⟩:=hb.1 hc;exact .inr ⟨⟨v,hv,fun h=>h p h6 h7⟩,rfl⟩
   | false=>
    have hno:zme ms v:=fun p h6 h7=>by
     have:=hb.2 ⟨p,h6,h7⟩;rw[hc]at this;cases this
    rw[cond_false,zao (by omega)];rcases zwO hn hm he n (v+1) hv (by omega)with⟨g1,g2⟩| ⟨g1,g2⟩
    ·refine .inl ⟨fun u hu hul=>?_,g2⟩;by_cases huv:u=v
     ·rw[huv]; exact hno
     exact g1 u (by omega) hul
    exact .inr ⟨g1,g2⟩
  rw[decide_eq_false hv,cond_false];exact .inl ⟨fun u h6 h7=>absurd h7 (by omega),rfl⟩
theorem zwV{ms:List Nat}(hn:ms.length≤60)(hm:∀ m∈ms,m<18446744073709551616)(he:EOk ms):
  ((∀ u,u<ms.length→zme ms u)∧zcs (iL ms)=some true)∨((∃ u,u<ms.length∧¬ zme ms u)∧zcs (iL ms)=some false):=by
 unfold zcs;rw[zaq,zax];rcases zwO hn hm he (ms.length+2) 0 (qay _) (by omega)with⟨g1,g2⟩| ⟨g1,g2⟩
 ·rw[show((0:Nat):Int)=0 from rfl]at g2;rw[g2,qaa];exact .inl ⟨fun u=>g1 u (qay _),rfl⟩
 rw[show((0:Nat):Int)=0 from rfl]at g2;rw[g2,qaa];exact .inr ⟨g1,rfl⟩
structure RN where
 c:Nat
 ps:List Nat
 rows:List (List Int)
def rd(x:RN):S_api_Node:=⟨x.c,iL x.ps,x.rows⟩
def P1(m:Int)(y:S_api_Node):Prop:=(1≤y.card∧y.card≤4)∧zkW m (-1) y.parents
theorem znm{d:S_api_Net}(hb:Bnd d)(hn:d.nodes.length≤8):∀(n a:Nat) (xs ys:List S_api_Node),xs ++ ys=d.nodes→a≤4 ^ xs.length→ys.length<n →
  ((∀ y∈ys,P1 (d.nodes.length:Int) y)∧zbX d n (a:Int) (xs.length:Int)=some (.go ((a * zai (ys.map (·.card.toNat)):Nat):Int)))∨
  ((¬ ∀ y∈ys,P1 (d.nodes.length:Int) y)∧zbX d n (a:Int) (xs.length:Int)=some (.ret false))
 | 0,_,_,_,_,_,h=>absurd h (qam _)
 | n+1,a,xs,[],h1,h2,h3=>by
  unfold zbX;rw[qaN]at h1;rw[← h1,zar,decide_eq_false (by omega),cond_false];exact .inl ⟨fun _ h=>(nomatch h),by simp[zai]⟩
 | n+1,a,xs,y :: ys,h1,h2,h3=>by
  unfold zbX;have hxn:xs.length<d.nodes.length:=by rw[← h1]; simp
  have hy:d.nodes[xs.length]=y:=by simp[← h1]
  have hym:y∈d.nodes:=by rw[← h1]; simp
  rw[zar,decide_eq_true hxn,cond_true,zaJ hxn,qaa,hy];by_cases c1:y.card<1
  ·rw[decide_eq_true c1,cond_true,qaa,cond_true];exact .inr ⟨fun h=>by have:=(h y qap).1.1; omega,rfl⟩
  by_cases c2:4<y.card
  ·rw[decide_eq_false c1,cond_false,decide_eq_true c2,cond_true,qaa,cond_true];exact .inr ⟨fun h=>by have:=(h y qap).1.2; omega,rfl⟩
  obtain⟨b,e,hbb⟩:=zrE (m:=(d.nodes.length:Int)) (hb.node y hym).par;rw[decide_eq_false c1,cond_false,decide_eq_false c2,cond_false,e,qaa,qaa];cases b with
  | false=>
   exact .inr ⟨fun h=>absurd (hbb.2 (h y qap).2) (by decide),rfl⟩
  | true=>
   obtain⟨c,hc⟩:∃ c:Nat,y.card=(c:Int):=⟨y.card.toNat,by omega⟩;have hpw:4 ^ (xs.length+1)≤4 ^ 8:=qbu (by decide) (by omega);have hac:a * c≤4 ^ (xs.length+1):=by rw[qdb]; exact qbQ h2 (by omega)
   rw[qa3,cond_false,hc,← qa4,zaA (by omega),zao (by omega)];have ih:=znm hb hn n (a * c) (xs ++ [y]) ys (by rw[← h1]; simp) (by simpa using hac) (by simp at h3; omega);rw[show(xs ++ [y]).length=xs.length+1 by simp]at ih;rcases ih with⟨g1,g2⟩| ⟨g1,g2⟩
   ·refine .inl ⟨fun z hz=>?_,?_⟩
    ·rcases qaL.1 hz with rfl | hz
     ·exact⟨⟨by omega,by omega⟩,hbb.1 rfl⟩
     exact g1 z hz
    rw[g2,qaH,hc,qaF];show _=some (Out.go (((a * (c * zai (ys.map (·.card.toNat))):Nat):Int)));rw[qbw]
   exact .inr ⟨fun h=>g1 fun z hz=>h z (qal _ hz),g2⟩
theorem zxC{m:Nat}:∀ {ys:List S_api_Node},(∀ y∈ys,P1 (m:Int) y)→∃ rs:List RN,ys=rs.map rd∧∀ x∈rs,(1≤x.c∧x.c≤4)∧x.ps.Pairwise (· < ·)∧∀ p∈x.ps,p<m
 | [],_=>⟨[],rfl,fun _ h=>nomatch h⟩
 | y :: ys,h=>by
  obtain⟨rs,e,h1⟩:=zxC (m:=m) (ys:=ys) fun y hy=>h y (qal _ hy)
  obtain⟨⟨h2,h3⟩,h4⟩:=h y qap;obtain⟨qs,e2,g1,_,g3⟩:=h4.zyf (by omega);refine⟨⟨y.card.toNat,qs,y.rows⟩:: rs,?_,fun x hx=>?_⟩
  ·rw[qaH,← e];congr 1
   obtain⟨c,p,r⟩:=y;simp only at h2 h3 e2;simp only[rd,e2,qby (show 0≤c by omega)]
  rcases qaL.1 hx with rfl | hx
  ·exact⟨by simp only; omega,g1,g3⟩
  exact h1 x hx
theorem zfy{rs:List RN}{v:Nat}(h:v<rs.length):zaP (rs.map rd) (v:Int)=some (rd rs[v]):=by
 rw[zaJ (by simpa using h)]; simp
theorem zof{g:Int}{rs:List RN}{v:Nat}(hv:v<rs.length)(hp:∀ p∈rs[v].ps,p<8)(hl:rs[v].ps.length≤8):∀(n i m:Nat),i≤rs[v].ps.length→m<18446744073709551616→rs[v].ps.length - i<n →
  zbw ⟨g,rs.map rd⟩ (v:Int) n (m:Int) (i:Int)=some (((rs[v].ps.drop i).foldl (fun m p=>m ||| 2 ^ p) m:Nat):Int)
 | 0,_,_,_,_,h=>absurd h (qam _)
 | n+1,i,m,h1,h2,h3=>by
  unfold zbw;simp only[];rw[zfy hv,qaa,show(rd rs[v]).parents=iL rs[v].ps from rfl,zaq,zar];by_cases hi:i<rs[v].ps.length
  ·have h8:=hp _ (qaq hi);have hpw:2 ^ rs[v].ps[i]<18446744073709551616:=qbX (n:=64) (by decide) (by omega)
   rw[decide_eq_true hi,cond_true,za2 hi,qaa,zxq (by omega),zyu (by omega),qaa,orU h2 hpw,zao (by omega),zof hv hp hl n (i+1) _ hi (qck (n:=64) h2 hpw) (by omega),
    qao hi,qb4]
  rw[decide_eq_false hi,cond_false,qaM (by omega)];rfl
def zc7(rs:List RN):List Nat:=rs.map fun x=>zbh x.ps
theorem znX{g:Int}{rs:List RN}(hn:rs.length≤8)(hp:∀ x∈rs,x.ps.length≤8∧∀ p∈x.ps,p<8):∀(n i:Nat),i≤rs.length→rs.length - i<n →
  zbu ⟨g,rs.map rd⟩ n (i:Int) (iL (zc7 (rs.take i)))=some (iL (zc7 rs))
 | 0,_,_,h=>absurd h (qam _)
 | n+1,i,h1,h3=>by
  unfold zbu;simp only[];rw[qaw,zar];by_cases hi:i<rs.length
  ·obtain⟨k1,k2⟩:=hp _ (qaq hi);have e:=zof (g:=g) hi k2 k1 (rs[i].ps.length+2) 0 0 (qay _) (by decide) (by omega);rw[show((0:Nat):Int)=0 from rfl,qaS]at e
   rw[decide_eq_true hi,cond_true,zfy hi,qbo,show(rd rs[i]).parents.length=rs[i].ps.length by simp[rd,zaq],zax,e,qaa,
    show(rs[i].ps.foldl (fun m p=>m ||| 2 ^ p) 0)=zbh rs[i].ps from rfl,zck (by rw[zaq]; simp[zc7]; omega),qaa,zao (by omega)]
   have ih:=znX (g:=g) hn hp n (i+1) hi (by omega);rw[← ih];congr 1
   rw[List.take_add_one,qad hi];simp only[zc7,iL,Option.toList_some,qba,qaH,qbI]
  rw[decide_eq_false hi,cond_false,qaJ (by omega)]
theorem zni{g:Int}{rs:List RN}(hn:rs.length≤8)(hp:∀ x∈rs,x.ps.length≤8∧∀ p∈x.ps,p<8):za6 ⟨g,rs.map rd⟩=some (iL (zc7 rs)):=by
 have e:=znX (g:=g) hn hp (rs.length+2) 0 (qay _) (by omega);rw[show((0:Nat):Int)=0 from rfl,qbz,show iL (zc7 [])=[]from rfl]at e;unfold za6;simp only[];rw[qaw,zax,e,qaa]
theorem zz1{g:Int}{rs:List RN}{v:Nat}(hl:rs.length≤8)(hv:v<rs.length)(hp:Pl rs.length rs[v].ps)(h8:rs[v].ps.length≤8):
  zaG ⟨g,rs.map rd⟩ (v:Int)=some (iL (rs[v].ps.map fun p=>(rs.map (·.c)).getD p 0)):=by
 unfold zaG;rw[zfy hv,qaa,zoh (by simpa using hl),qaa];have hc:(rs.map rd).map (·.card)=iL (rs.map (·.c)):=by simp[iL,rd,qbi]
 simp only[];rw[hc,show(rd rs[v]).parents=iL rs[v].ps from rfl,zvL (by rw[zaq,qaw]; exact hp) h8,qaa];congr 1
 simp only[zrf];simp only[iL,qcX,qbi]
theorem zoc{g:Nat}{d:S_api_Net}{r:List Int}(hg:d.grain=(g:Int))(hg2:g≤60)(hl:r.length≤1000):∀(n i a:Nat),i≤r.length→a≤60 * i→r.length - i<n →
  (∃ zs:List Nat,r.drop i=iL zs∧(∀ z∈zs,z≤g)∧zcg r d n (a:Int) (i:Int)=some (.go ((a+zs.sum:Nat):Int)))∨
  ((¬ ∃ zs:List Nat,r.drop i=iL zs∧∀ z∈zs,z≤g)∧zcg r d n (a:Int) (i:Int)=some (.ret false))
 | 0,_,_,_,_,h=>absurd h (qam _)
 | n+1,i,a,h1,h2,h3=>by
  unfold zcg;by_cases hi:i<r.length
  ·have hd:r.drop i=r[i]:: r.drop (i+1):=qao hi;obtain⟨p,hpp⟩:∃ p,r[i]=p:=⟨_,rfl⟩;rw[zar,decide_eq_true hi,cond_true,zaJ hi,qaa,hd,hpp,hg];by_cases c1:p<0
   ·refine .inr ⟨fun⟨zs,e,_⟩=>?_,by rw[decide_eq_true c1,cond_true,qaa,cond_true]⟩;cases zs with
    | nil=>cases e
    | cons z zs=>simp only[iL,qaH,qcn]at e; omega
   by_cases c2:(g:Int)<p
   ·refine .inr ⟨fun⟨zs,e,hs⟩=>?_,by rw[decide_eq_false c1,cond_false,decide_eq_true c2,qaa,cond_true]⟩;cases zs with
    | nil=>cases e
    | cons z zs=>simp only[iL,qaH,qcn]at e; have:=hs z qap; omega
   obtain⟨q,rfl⟩:∃ q:Nat,p=(q:Int):=⟨p.toNat,by omega⟩;rw[decide_eq_false c1,cond_false,decide_eq_false c2,qaa,cond_false,qaa,← qcm,zaA (by omega),zao (by omega)];rcases zoc hg hg2 hl n (i+1) (a+q) hi (by omega) (by omega)with⟨zs,e,hs,g3⟩| ⟨g1,g2⟩
   ·refine .inl ⟨q :: zs,by rw[e]; rfl,fun z hz=>?_,by rw[g3,qbR,qbj]⟩;rcases qaL.1 hz with rfl | hz
    ·omega
    exact hs z hz
   refine .inr ⟨fun⟨zs,e,hs⟩=>g1 ?_,g2⟩;cases zs with
   | nil=>cases e
   | cons z zs=>
    simp only[iL,qaH,qcn]at e;exact⟨zs,e.2,fun z hz=>hs z (qal _ hz)⟩
  rw[zar,decide_eq_false hi,cond_false,qaM (by omega)];exact .inl ⟨[],rfl,fun _ h=>(nomatch h),by simp⟩
theorem zqk:∀ {zs:List Nat} {z:Nat},z∈zs→z≤zs.sum
 | x :: xs,z,h=>by
  rw[qbR];rcases qaL.1 h with rfl | h
  ·omega
  have:=zqk h; omega
theorem zoa{g c:Nat}{d:S_api_Net}{x:S_api_Node}(hg:d.grain=(g:Int))(hg2:g≤60)(hc:x.card=(c:Int))(hb:BndX 1000 x):∀(n i:Nat),i≤x.rows.length→x.rows.length - i<n →
  ((∀ r∈x.rows.drop i,zoA g c r)∧zco x d n (i:Int)=some (.go ()))∨((¬ ∀ r∈x.rows.drop i,zoA g c r)∧zco x d n (i:Int)=some (.ret false))
 | 0,_,_,h=>absurd h (qam _)
 | n+1,i,h1,h3=>by
  unfold zco;by_cases hi:i<x.rows.length
  ·have hd:x.rows.drop i=x.rows[i]:: x.rows.drop (i+1):=qao hi;have hrl:=hb.row _ (qaq hi);have hrows:=hb.rows;obtain⟨r,hr⟩:∃ r,x.rows[i]=r:=⟨_,rfl⟩;rw[hr]at hrl hd;rw[zar,decide_eq_true hi,cond_true,zaJ hi,qaa,hr,hc,hd];by_cases c1:r.length=c
   ·rw[show(((r.length:Nat):Int)==(c:Int))=true by rw[c1]; simp,cond_true,zax];have e4:=zoc (g:=g) (d:=d) hg hg2 hrl (r.length+2) 0 0 (qay _) (by omega) (by omega);rw[show((0:Nat):Int)=0 from rfl,qaS]at e4;rcases e4 with⟨zs,e,hs,e4⟩| ⟨g1,e4⟩
    ·rw[e4,qaa];simp only[];rw[qaZ,hg];by_cases c2:zs.sum=g
     ·have hok:zoA g c r:=⟨zs,e,by rw[← c1,e,zaq],c2⟩;rw[show(((zs.sum:Nat):Int)==(g:Int))=true by rw[c2]; simp,cond_true,zao (by omega)];rcases zoa hg hg2 hc hb n (i+1) hi (by omega)with⟨g1,g2⟩| ⟨g1,g2⟩
      ·refine .inl ⟨fun z hz=>?_,g2⟩;rcases qaL.1 hz with rfl | hz
       ·exact hok
       exact g1 z hz
      exact .inr ⟨fun h=>g1 fun z hz=>h z (qal _ hz),g2⟩
     rw[show(((zs.sum:Nat):Int)==(g:Int))=false by rw[beq_eq_false_iff_ne]; omega,cond_false];refine .inr ⟨fun h=>?_,rfl⟩;obtain⟨zs',e',_,h7⟩:=h r qap;exact c2 (by rw[zkK (e.symm.trans e'),h7])
    rw[e4,qaa];refine .inr ⟨fun h=>g1 ?_,rfl⟩;obtain⟨zs',e',_,h7⟩:=h r qap;exact⟨zs',e',fun z hz=>by rw[← h7]; exact zqk hz⟩
   rw[show(((r.length:Nat):Int)==(c:Int))=false by rw[beq_eq_false_iff_ne]; omega,cond_false];refine .inr ⟨fun h=>?_,rfl⟩;obtain⟨zs',e',h6,_⟩:=h r qap;exact c1 (by rw[e',zaq,h6])
  rw[zar,decide_eq_false hi,cond_false,qaM (by omega)];exact .inl ⟨fun _ h=>(nomatch h),rfl⟩
def P2(g:Nat)(cs:List Nat)(x:RN):Prop:=x.rows.length=zai (x.ps.map fun p=>cs.getD p 0)∧∀ r∈x.rows,zoA g x.c r
theorem znJ{g:Nat}{rs:List RN}(hg2:g≤60)(hn:rs.length≤8)(hb:∀ x∈rs,BndX 1000 (rd x))(hr:∀ x∈rs,(1≤x.c∧x.c≤4)∧x.ps.Pairwise (· < ·)∧∀ p∈x.ps,p<rs.length):∀(n i:Nat),i≤rs.length→rs.length - i<n →
  ((∀ x∈rs.drop i,P2 g (rs.map (·.c)) x)∧zcp ⟨(g:Int),rs.map rd⟩ n (i:Int)=some (.go ()))∨((¬ ∀ x∈rs.drop i,P2 g (rs.map (·.c)) x)∧zcp ⟨(g:Int),rs.map rd⟩ n (i:Int)=some (.ret false))
 | 0,_,_,h=>absurd h (qam _)
 | n+1,i,h1,h3=>by
  unfold zcp;simp only[];rw[qaw,zar];by_cases hi:i<rs.length
  ·have hd:rs.drop i=rs[i]:: rs.drop (i+1):=qao hi;obtain⟨⟨k1,k2⟩,k3,k4⟩:=hr _ (qaq hi);have hbx:=hb _ (qaq hi);have hpl:rs[i].ps.length≤8:=by have:=zfK k3 k4; omega
   have hq4:∀ z∈rs[i].ps.map (fun p=>(rs.map (·.c)).getD p 0),1≤z∧z≤4:=fun z hz=>by
    obtain⟨p,hp,rfl⟩:=qaG.1 hz;have h6:=k4 p hp;rw[show(rs.map (·.c)).getD p 0=rs[p].c by simp[h6]];exact(hr _ (qaq h6)).1
   rw[decide_eq_true hi,cond_true,zfy hi,qaa,zz1 hn hi k4 hpl,qaa,zrO (fun z hz=>(hq4 z hz).1) (by simpa using hpl) (zma hq4 (by simpa using hpl)),qaa,hd,
    show(rd rs[i]).rows=rs[i].rows from rfl]
   by_cases c1:rs[i].rows.length=zai (rs[i].ps.map fun p=>(rs.map (·.c)).getD p 0)
   ·rw[show(((rs[i].rows.length:Nat):Int)==((zai (rs[i].ps.map fun p=>(rs.map (·.c)).getD p 0):Nat):Int))=true by rw[c1]; simp,cond_true,zax];have e3:=zoa (g:=g) (c:=rs[i].c) (d:=⟨(g:Int),rs.map rd⟩) (x:=rd rs[i]) rfl hg2 rfl hbx ((rd rs[i]).rows.length+2) 0 (qay _) (by omega);rw[show((0:Nat):Int)=0 from rfl,qaS,show(rd rs[i]).rows=rs[i].rows from rfl]at e3;rcases e3 with⟨g1,e3⟩| ⟨g1,e3⟩
    ·rw[e3,qaa];simp only[];rw[zao (by omega)];rcases znJ hg2 hn hb hr n (i+1) hi (by omega)with⟨g3,g2⟩| ⟨g3,g2⟩
     ·refine .inl ⟨fun z hz=>?_,g2⟩;rcases qaL.1 hz with rfl | hz
      ·exact⟨c1,g1⟩
      exact g3 z hz
     exact .inr ⟨fun h=>g3 fun z hz=>h z (qal _ hz),g2⟩
    rw[e3,qaa];exact .inr ⟨fun h=>g1 (h _ qap).2,rfl⟩
   rw[show(((rs[i].rows.length:Nat):Int)==((zai (rs[i].ps.map fun p=>(rs.map (·.c)).getD p 0):Nat):Int))=false by rw[beq_eq_false_iff_ne]; omega,cond_false];exact .inr ⟨fun h=>c1 (h _ qap).1,rfl⟩
  rw[decide_eq_false hi,cond_false,qaM (by omega)];exact .inl ⟨fun _ h=>(nomatch h),rfl⟩
def ztZ(d:S_api_Net):Prop:=∃ g ns,d=zcx g ns∧RightN g ns
theorem zwh{g:Nat}{cs:List Nat}:∀ {rs:List RN},(∀ x∈rs,P2 g cs x)→∃ ns:List NN,rs.map rd=ns.map nd∧rs.map (·.c)=ns.map (·.c)∧rs.map (·.ps)=ns.map (·.ps)∧∀ z∈ns,RowsOk g z.c (zai (z.ps.map fun p=>cs.getD p 0)) z.rows
 | [],_=>⟨[],rfl,rfl,rfl,fun _ h=>nomatch h⟩
 | x :: rs,h=>by
  obtain⟨ns,e1,e2,e3,h1⟩:=zwh (g:=g) (cs:=cs) (rs:=rs) fun y hy=>h y (qal _ hy)
  obtain⟨h2,h3⟩:=h x qap;obtain⟨zss,e4,h4⟩:=zhR (p:=fun zs=>zs.length=x.c∧zs.sum=g) (rows:=x.rows) fun r hr=>by
   obtain⟨zs,k1,k2,k3⟩:=h3 r hr;exact⟨zs,k1,k2,k3⟩
  refine⟨⟨x.c,x.ps,zss⟩:: ns,?_,by simp only[qaH,e2],by simp only[qaH,e3],fun z hz=>?_⟩
  ·rw[qaH,qaH,e1];congr 1
   simp only[rd,nd,e4]
  rcases qaL.1 hz with rfl | hz
  ·exact⟨by simp only; rw[← h2,e4,qaw],h4⟩
  exact h1 z hz
theorem zrS{n:Nat}{pss:List (List Nat)}(hl:pss.length=n)(hp:∀ ps∈pss,∀ p∈ps,p<n):EOk (pss.map zbh):=by
 intro v p h;by_cases hv:v<pss.length
 ·rw[show(pss.map zbh).getD v 0=zbh pss[v] by simp[hv],zcJ]at h;have:=hp _ (qaq hv) p (of_decide_eq_true h);exact⟨by simpa using hv,by simpa [hl]using this⟩
 rw[show(pss.map zbh).getD v 0=0 by simp[hv]]at h;simp at h
theorem zsF{ms:List Nat}(hn:ms.length≤8)(hm:∀ m∈ms,m<18446744073709551616)(he:EOk ms)(hno:∀ u,u<ms.length→zme ms u):∃ os,zc9 ms os∧os.length=ms.length:=by
 have step:∀ k,k≤ms.length→∃ os,zc9 ms os∧os.length=k:=by
  intro k;induction k with
  | zero=>exact fun _=>⟨[],fun k v hk=>by simp at hk,rfl⟩
  | succ k ih=>
   intro hk;obtain⟨os,h1,h2⟩:=ih (by omega);have:∃ v,v<ms.length∧zgN ms (zbh os) v:=qaY fun hn=>by
    obtain⟨v,p,h3,h4,h5⟩:=zmp (ms:=ms) (os:=os) (fun v p h=>(he v p h).2) (by omega) h1.nod fun v hv hr=>hn ⟨v,hv,hr⟩
    exact hno v h3 p h4 h5
   obtain⟨v,hv,hr⟩:=this;obtain⟨u,hu⟩:=znA v hv hr;exact⟨os ++ [u],h1.app hu,by simp[h2]⟩
 exact step ms.length (qaj _)
theorem RightN.zy1{g:Nat}{ns:List NN}(h:RightN g ns):∀ u,u<(zas ns).length→zme (zas ns) u:=by
 obtain⟨rk,hg,_⟩:=h.gok;intro u hu p hp hr;have h1:=zpp (rk:=rk) (fun v p h=>(hg.down v p h).2) hr;have h2:=(hg.down u p hp).2;omega
theorem RightN.p1{g:Nat}{ns:List NN}(h:RightN g ns):∀ y∈ns.map nd,P1 (ns.length:Int) y:=by
 intro y hy;obtain⟨x,hx,rfl⟩:=qaG.1 hy;have hc:=h.card x hx;exact⟨⟨by simp only[nd]; omega,by simp only[nd]; omega⟩,zkW.of (h.inc x hx) (fun q _=>by omega) (h.lt x hx)⟩
theorem zpX{d:S_api_Net}(hb:Bnd d):(ztZ d∧zdc d=some true)∨(¬ ztZ d∧zdc d=some false):=by
 unfold zdc;by_cases c1:d.grain<1
 ·rw[decide_eq_true c1,cond_true,qaa,cond_true];exact .inr ⟨fun⟨g,ns,e,h⟩=>by subst e; have:=h.g1; simp only[zcx]at c1; omega,rfl⟩
 by_cases c2:60<d.grain
 ·rw[decide_eq_false c1,cond_false,decide_eq_true c2,cond_true,qaa,cond_true];exact .inr ⟨fun⟨g,ns,e,h⟩=>by subst e; have:=h.g2; simp only[zcx]at c2; omega,rfl⟩
 by_cases c3:(d.nodes.length:Int)<1
 ·rw[decide_eq_false c1,cond_false,decide_eq_false c2,cond_false,decide_eq_true c3,cond_true,qaa,cond_true];exact .inr ⟨fun⟨g,ns,e,h⟩=>by subst e; have:=h.n1; simp only[zcx,qaw]at c3; omega,rfl⟩
 by_cases c4:8<(d.nodes.length:Int)
 ·rw[decide_eq_false c1,cond_false,decide_eq_false c2,cond_false,decide_eq_false c3,cond_false,decide_eq_true c4,qaa,cond_true];exact .inr ⟨fun⟨g,ns,e,h⟩=>by subst e; have:=h.n2; simp only[zcx,qaw]at c4; omega,rfl⟩
 rw[decide_eq_false c1,cond_false,decide_eq_false c2,cond_false,decide_eq_false c3,cond_false,decide_eq_false c4,qaa,cond_false,zax];have hn:d.nodes.length≤8:=by omega
 have e1:=znm hb hn (d.nodes.length+2) 1 [] d.nodes rfl (by decide) (by omega);rw[qaK,show((0:Nat):Int)=0 from rfl,show((1:Nat):Int)=1 from rfl,qbq]at e1;rcases e1 with⟨g1,e1⟩| ⟨g1,e1⟩
 case inr=>
  rw[e1,qaa];exact .inr ⟨fun⟨g,ns,e,h⟩=>g1 (by subst e; have:=h.p1; simpa [zcx]using this),rfl⟩
 rw[e1,qaa];simp only[];obtain⟨rs,e2,h2⟩:=zxC g1;obtain⟨g,hg⟩:∃ g:Nat,d.grain=(g:Int):=⟨d.grain.toNat,by omega⟩;obtain⟨G,ds⟩:=d;simp only at hg e2;subst hg e2;simp only[qaw]at *;have hcs:(rs.map rd).map (fun y:S_api_Node=>y.card.toNat)=rs.map (·.c):=by simp[rd,qbi]
 rw[hcs];by_cases c5:(1024:Int)<((zai (rs.map (·.c)):Nat):Int)
 ·rw[decide_eq_true c5,cond_true,qaa,cond_true];refine .inr ⟨fun⟨g',ns,e,h⟩=>?_,rfl⟩;have:rs.map (·.c)=ns.map (·.c):=by
   have h6:=congrArg (fun d:S_api_Net=>d.nodes.map fun y=>y.card.toNat) e;simpa [zcx,rd,nd,qbi]using h6
  have h7:=h.prod;rw[← this]at h7;omega
 have hp8:∀ x∈rs,x.ps.length≤8∧∀ p∈x.ps,p<8:=fun x hx=>by
  obtain⟨_,k3,k4⟩:=h2 x hx;exact⟨by have:=zfK k3 k4; omega,fun p hp=>by have:=k4 p hp; omega⟩
 have hmm:∀ m∈zc7 rs,m<18446744073709551616:=by
  intro m hm;obtain⟨x,hx,rfl⟩:=qaG.1 hm;exact Go.Dc.zeC fun p hp=>by have:=(hp8 x hx).2 p hp; omega
 have hml:(zc7 rs).length=rs.length:=by simp[zc7]
 have hmp:zc7 rs=(rs.map (·.ps)).map zbh:=by simp[zc7,qbi]
 have heo:EOk (zc7 rs):=by
  rw[hmp];refine zrS (n:=rs.length) (by simp) fun ps hps p hp=>?_
  obtain⟨x,hx,rfl⟩:=qaG.1 hps;exact(h2 x hx).2.2 p hp
 rw[decide_eq_false c5,cond_false,zni (by omega) hp8,qaa];rcases zwV (ms:=zc7 rs) (by omega) hmm heo with⟨g3,e3⟩| ⟨g3,e3⟩
 case inr=>
  rw[e3,qaa,qaa,qbF,cond_true];refine .inr ⟨fun⟨g',ns,e,h⟩=>?_,rfl⟩;have:zc7 rs=zas ns:=by
   have h6:=congrArg (fun d:S_api_Net=>d.nodes.map fun y=>zbh (y.parents.map Int.toNat)) e;simpa [zcx,rd,nd,qbi,zc7,zas,iL]using h6
  rw[this]at g3;obtain⟨u,hu,hno⟩:=g3;exact hno (h.zy1 u hu)
 rw[e3,qaa,qaa,qa3,cond_false];have e4:=znJ (g:=g) (rs:=rs) (by omega) (by omega) (fun x hx=>hb.node _ (qaG.2 ⟨x,hx,rfl⟩)) h2 (rs.length+2) 0 (qay _) (by omega);rw[show((0:Nat):Int)=0 from rfl,qaS]at e4;rcases e4 with⟨g4,e4⟩| ⟨g4,e4⟩
 ·rw[e4,qaa];refine .inl ⟨?_,rfl⟩;obtain⟨ns,k1,k2,k3,k4⟩:=zwh g4;have hnl:ns.length=rs.length:=by have:=congrArg List.length k1; simpa using this.symm
  have hmo:zc7 rs=zas ns:=by rw[hmp,k3]; simp[zas,qbi]
  obtain⟨os,o1,o2⟩:=zsF (ms:=zc7 rs) (by omega) hmm heo g3;have hz:∀ z∈ns,∃ x∈rs,x.c=z.c∧x.ps=z.ps:=by
   intro z hz;obtain⟨i,hi,rfl⟩:=qbZ.1 hz;refine⟨rs[i]'(by omega),qaq _,?_,?_⟩
   ·have:=congrArg (fun l:List Nat=>l[i]?) k2;simpa [hi,show i<rs.length by omega]using this
   have:=congrArg (fun l:List (List Nat)=>l[i]?) k3;simpa [hi,show i<rs.length by omega]using this
  refine⟨g,ns,by rw[k1]; rfl,by omega,by omega,by omega,by omega,fun z hzm=>?_,by rw[← k2]; omega,fun z hzm=>?_,fun z hzm=>?_,fun z hzm=>by rw[← k2]; exact k4 z hzm,?_⟩
  ·obtain⟨x,hx,q1,q2⟩:=hz z hzm;rw[← q1]; exact(h2 x hx).1
  ·obtain⟨x,hx,q1,q2⟩:=hz z hzm;rw[← q2]; exact(h2 x hx).2.1
  ·obtain⟨x,hx,q1,q2⟩:=hz z hzm;rw[← q2,hnl]; exact(h2 x hx).2.2
  refine⟨fun v=>os.idxOf v,fun v=>?_,fun v x hv p hp=>?_⟩
  ·have:=List.idxOf_le_length (a:=v) (l:=os); simp only; omega
  have hvl:=(qab.1 hv).1;refine o1.zy8 o2 v p (by omega) ?_;rw[hmo,show(zas ns).getD v 0=zbh x.ps by simp[zas,qav,hv],zcJ];exact decide_eq_true hp
 rw[e4,qaa];refine .inr ⟨fun⟨g',ns,e,h⟩=>g4 fun x hx=>?_,rfl⟩;have hgg:(g:Int)=(g':Int):=congrArg S_api_Net.grain e;have hgg:g=g':=by omega
 subst hgg;have hn':rs.map rd=ns.map nd:=congrArg S_api_Net.nodes e;have hcc:rs.map (·.c)=ns.map (·.c):=by
  have h6:=congrArg (fun l:List S_api_Node=>l.map fun y=>y.card.toNat) hn';simpa [rd,nd,qbi]using h6
 obtain⟨i,hi,rfl⟩:=qbZ.1 hx;have hil:i<ns.length:=by have:=congrArg List.length hn'; simp at this; omega
 have h6:=congrArg (fun l:List S_api_Node=>l[i]?) hn';simp only[qaU,qad hi,qad hil,qaQ,qae]at h6;have q1:rs[i].c=ns[i].c:=by have:=congrArg S_api_Node.card h6; simp only[rd,nd]at this; omega
 have q2:rs[i].ps=ns[i].ps:=zkK (congrArg S_api_Node.parents h6);have q3:rs[i].rows=ns[i].rows.map iL:=congrArg S_api_Node.rows h6;have hro:=h.rows _ (qaq hil);refine⟨by rw[q3,qaw,hro.len,q2,hcc],fun r hr=>?_⟩;rw[q3]at hr;obtain⟨zs,hz,rfl⟩:=qaG.1 hr;have:=hro.row zs hz;exact⟨zs,rfl,by rw[q1]; exact this.1,this.2⟩
theorem zf5{α:Type}{xs:List α}{k:Nat}:∃ ys:List α,zdu xs 0 (zcL (xs.length:Int) (k:Int))=some ys∧ys.length≤k∧∀ y∈ys,y∈xs:=by
 have hm:zcL (xs.length:Int) (k:Int)=((min xs.length k:Nat):Int):=by unfold zcL; split<;>omega
 refine⟨xs.take (min xs.length k),?_,by simp; omega,fun y hy=>qcG hy⟩;rw[hm,show(0:Int)=((0:Nat):Int)from rfl];unfold zdu;rw[if_pos (by omega)];simp
theorem zt9{rs:List (List Int)}(hl:rs.length≤20):∀(n i:Nat) (acc:List (List Int)),i≤rs.length→acc.length≤i→(∀ r∈acc,r.length≤6)→rs.length - i<n →
  ∃ out,out.length≤20∧(∀ r∈out,r.length≤6)∧zdK rs n (i:Int) acc=some out
 | 0,_,_,_,_,_,h=>absurd h (qam _)
 | n+1,i,acc,h1,h2,h4,h3=>by
  unfold zdK;rw[zar];by_cases hi:i<rs.length
  ·obtain⟨y,e,hy,_⟩:=zf5 (xs:=rs[i]) (k:=6);rw[show((6:Nat):Int)=6 from rfl]at e
   obtain⟨out,k1,k2,k3⟩:=zt9 hl n (i+1) (acc ++ [y]) hi (by simp; omega) (fun r hr=>by
    rcases qbl.1 hr with hr | hr
    ·exact h4 r hr
    rw[qa0.1 hr]; exact hy) (by omega)
   refine⟨out,k1,k2,?_⟩;rw[decide_eq_true hi,cond_true,zaJ hi,qaa,e,qaa,zck (by simp; omega),qaa,zao (by omega),k3]
  exact⟨acc,by omega,h4,by rw[decide_eq_false hi,cond_false]⟩
theorem zuA{xs:List S_api_Node}(hl:xs.length≤9):∀(n i:Nat) (acc:List S_api_Node),i≤xs.length→acc.length≤i→(∀ r∈acc,BndX 100 r)→xs.length - i<n →
  ∃ out,out.length≤9∧(∀ r∈out,BndX 100 r)∧zdN xs n (i:Int) acc=some out
 | 0,_,_,_,_,_,h=>absurd h (qam _)
 | n+1,i,acc,h1,h2,h4,h3=>by
  unfold zdN;rw[zar];by_cases hi:i<xs.length
  ·obtain⟨y6,e6,hy6,_⟩:=zf5 (xs:=xs[i].parents) (k:=8);obtain⟨y8,e8,hy8,_⟩:=zf5 (xs:=xs[i].rows) (k:=20);rw[show((8:Nat):Int)=8 from rfl]at e6;rw[show((20:Nat):Int)=20 from rfl]at e8;obtain⟨rows,r1,r2,r3⟩:=zt9 hy8 (y8.length+2) 0 [] (qay _) (qay _) (fun _ h=>nomatch h) (by omega);rw[show((0:Nat):Int)=0 from rfl]at r3
   obtain⟨out,k1,k2,k3⟩:=zuA hl n (i+1) (acc ++ [⟨xs[i].card,y6,rows⟩]) hi (by simp; omega) (fun r hr=>by
    rcases qbl.1 hr with hr | hr
    ·exact h4 r hr
    rw[qa0.1 hr]
    exact⟨by simp only; omega,by simp only; omega,fun r hr=>by have:=r2 r hr; omega⟩) (by omega)
   refine⟨out,k1,k2,?_⟩;rw[decide_eq_true hi,cond_true,zaJ hi,qaa,e6,qaa,e8,qaa,zax,r3,qaa,zck (by simp; omega),qaa,zao (by omega),k3]
  exact⟨acc,by omega,h4,by rw[decide_eq_false hi,cond_false]⟩
theorem zwR(d:S_api_Net):∃ r,zeV d=some r∧BndK 100 r:=by
 obtain⟨y,e,hy,_⟩:=zf5 (xs:=d.nodes) (k:=9);rw[show((9:Nat):Int)=9 from rfl]at e;obtain⟨out,k1,k2,k3⟩:=zuA hy (y.length+2) 0 [] (qay _) (qay _) (fun _ h=>nomatch h) (by omega);rw[show((0:Nat):Int)=0 from rfl]at k3;refine⟨⟨d.grain,out⟩,?_,⟨by simp only; omega,k2⟩⟩;unfold zeV;rw[e,qaa,zax,k3,qaa]
structure BendOk (b:S_haruspexref05_Bend):Prop where
 what:0≤b.what∧b.what≤255
 at_:0≤b.at_∧b.at_≤255
 row:0≤b.row∧b.row≤255
theorem zuH{N:Nat}{raw:S_api_Net}{dr:DraftN}{b:S_haruspexref05_Bend}(hN:1025≤N)(hd:DraftOk dr)(hb:BendOk b):
  ∃ r:A3_S_api_Net,zer N raw (zcF dr) b=some r∧Bnd r.a0∧Bnd r.a1∧Bnd r.a2:=by
 obtain⟨x,e1,h1⟩:=zwR raw;obtain⟨num,ns,h,_,e2⟩:=zsJ hd hN;have h2:=h.bnd;obtain⟨y,e3,h3⟩:=zoE hb.what hb.at_ hb.row h2;refine⟨⟨x,zcx (1+dr.grain % 60) ns,y⟩,?_,h1.mono (by omega),h2.mono (by omega),h3.mono (by omega)⟩;unfold zer;rw[e1,qaa,e2,qaa,qaa];rw[show(⟨((1+dr.grain % 60:Nat):Int),ns.map nd⟩:S_api_Net)=zcx (1+dr.grain % 60) ns from rfl,e3,qaa]
def zzS(x:NN):RN:=⟨x.c,x.ps,x.rows.map iL⟩
theorem zv4(g:Nat)(ns:List NN):zcx g ns=⟨(g:Int),(ns.map zzS).map rd⟩:=by
 unfold zcx;rw[qcX];rfl
theorem RightN.zzh{g:Nat}{ns:List NN}(h:RightN g ns):za6 (zcx g ns)=some (iL (zas ns)):=by
 have hn:=h.n2;rw[zv4,zni (by simpa using hn) fun x hx=>?_]
 ·simp[zc7,zas,zzS,qbi]
 obtain⟨y,hy,rfl⟩:=qaG.1 hx;exact⟨h.zzn hy,fun p hp=>by have:=h.lt y hy p hp; omega⟩
theorem zva{a b:Nat}(hb:0<b)(ha:a<9223372036854775808):zsp .i64 (a:Int) (b:Int)=some ((a / b:Nat):Int):=by
 unfold zsp;rw[show((b:Int)== 0)=false by rw[beq_eq_false_iff_ne]; omega,cond_false,show((a:Int).tdiv (b:Int))=((a / b:Nat):Int)from rfl];congr 1
 have:a / b≤a:=qc8 a b;exact zaA (by omega)
structure CsOk (cs:List Nat):Prop where
 len:cs.length≤8
 card:∀ c∈cs,1≤c∧c≤4
 prod:zai cs≤1024
end Go.Dc
