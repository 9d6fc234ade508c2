/-
 Plain laws: what a reading of any net finds: parents, rows. Conditions: none.
-/
import Derived.Test.YtifdmgbehogecaaNhJ6
import Derived.Test.YtifdmgbehogecaaNhJ5
set_option linter.unusedSimpArgs false
set_option linter.unusedVariables false
namespace Go.Dc
open Go Go.Mx Go.Lx
def zo0:S_net_network:=⟨⟨0,[]⟩,[],[],[]⟩
def PsV(m v:Int):Int→List Int→Prop
 | _,[]=>True
 | lo,p :: r=>lo<p∧p<m∧p≠v∧PsV m v p r
def zkW(m:Int):Int→List Int→Prop
 | _,[]=>True
 | lo,p :: r=>lo<p∧p<m∧zkW m p r
theorem PsV.iff{m v:Int}:∀ {ps:List Int} {lo:Int},PsV m v lo ps↔zkW m lo ps∧∀ p∈ps,p≠v
 | [],lo=>by simp[PsV,zkW]
 | p :: r,lo=>by
  simp only[PsV,zkW,PsV.iff (ps:=r) (lo:=p),qaQ,forall_eq_or_imp];exact⟨fun⟨a,b,c,d,e⟩=>⟨⟨a,b,d⟩,c,e⟩,fun⟨⟨a,b,d⟩,c,e⟩=>⟨a,b,c,d,e⟩⟩
theorem zkW.zu8{m:Nat}:∀ {ps:List Int} {lo:Int},-1≤lo→zkW m lo ps→∃ qs:List Nat,ps=iL qs∧qs.Pairwise (· < ·)∧(∀ q∈qs,lo<(q:Int))∧∀ q∈qs,q<m
 | [],lo,_,_=>⟨[],rfl,List.Pairwise.nil,by simp,by simp⟩
 | p :: r,lo,hl,h=>by
  obtain⟨h1,h2,h3⟩:=h;obtain⟨qs,e,g1,g2,g3⟩:=h3.zu8 (by omega);refine⟨p.toNat :: qs,?_,qb9.2 ⟨fun q hq=>?_,g1⟩,fun q hq=>?_,fun q hq=>?_⟩
  ·rw[e]; simp only[iL,qaE]; congr 1; omega
  ·have:=g2 q hq; omega
  ·rcases qaQ.1 hq with rfl | hq
   ·omega
   have:=g2 q hq; omega
  rcases qaQ.1 hq with rfl | hq
  ·omega
  exact g3 q hq
theorem zkW.of{m:Nat}:∀ {qs:List Nat} {lo:Int},qs.Pairwise (· < ·)→(∀ q∈qs,lo<(q:Int))→(∀ q∈qs,q<m)→zkW m lo (iL qs)
 | [],lo,_,_,_=>trivial
 | q :: r,lo,h,h1,h2=>by
  obtain⟨h3,h4⟩:=qb9.1 h;show lo<(q:Int)∧(q:Int)<(m:Int)∧zkW m (q:Int) (iL r);refine⟨h1 q qau,by have:=h2 q qau; omega,zkW.of h4 (fun p hp=>by have:=h3 p hp; omega) fun p hp=>h2 p (qat _ hp)⟩
theorem zmK{v:Nat}{ns:S_api_Net}{x:S_api_Node}{xs ys:List Nat}(hn:ns.nodes.length≤8)(hv:xs.length=v)(hpl:x.parents.length≤1000):∀(n i m:Nat) (lo:Int),-1≤lo→i≤x.parents.length→m<18446744073709551616→x.parents.length - i<n →
  (PsV ns.nodes.length v lo (x.parents.drop i)∧∃ qs:List Nat,x.parents.drop i=iL qs∧zbN x ns (v:Int) n lo (i:Int) (iL (xs ++ m :: ys))=some (.go (iL (xs ++ (qs.foldl (fun m p=>m ||| 2 ^ p) m):: ys))))∨
  (¬ PsV ns.nodes.length v lo (x.parents.drop i)∧zbN x ns (v:Int) n lo (i:Int) (iL (xs ++ m :: ys))=some (.ret (zo0,50)))
 | 0,_,_,_,_,_,_,h=>absurd h (qak _)
 | n+1,i,m,lo,hlo,h1,h2,h3=>by
  unfold zbN;by_cases hi:i<x.parents.length
  ·have hd:x.parents.drop i=x.parents[i]:: x.parents.drop (i+1):=qas hi;obtain⟨p,hp⟩:∃ p,x.parents[i]=p:=⟨_,rfl⟩;rw[zao,decide_eq_true hi,cond_true,zaB hi,qaa,hd,hp];by_cases c1:p≤lo
   ·refine .inr ⟨fun h=>by have:=h.1; omega,?_⟩;rw[decide_eq_true c1,cond_true,qaa,cond_true]; rfl
   by_cases c2:(ns.nodes.length:Int)≤p
   ·refine .inr ⟨fun h=>by have:=h.2.1; omega,?_⟩;rw[decide_eq_false c1,cond_false,decide_eq_true c2,cond_true,qaa,cond_true]; rfl
   by_cases c3:p=(v:Int)
   ·refine .inr ⟨fun h=>h.2.2.1 c3,?_⟩;rw[decide_eq_false c1,cond_false,decide_eq_false c2,cond_false,qaa,show(p ==(v:Int))=true by simp[c3],cond_true]; rfl
   obtain⟨q,rfl⟩:∃ q:Nat,p=(q:Int):=⟨p.toNat,by omega⟩;have hpw:2 ^ q<18446744073709551616:=qaW (n:=64) (by decide) (by omega);have hm:m ||| 2 ^ q<18446744073709551616:=qbd (n:=64) h2 hpw;rw[decide_eq_false c1,cond_false,decide_eq_false c2,cond_false,qaa,show((q:Int)==(v:Int))=false by rw[beq_eq_false_iff_ne]; exact c3,cond_false,← hv,zde,qaa,zn9 (by omega),qaa,orU h2 hpw,zfg,qaa,zal (by omega),hv];rcases zmK (v:=v) (ns:=ns) (x:=x) (xs:=xs) (ys:=ys) hn hv hpl n (i+1) (m ||| 2 ^ q) (q:Int) (by omega) hi hm (by omega)with⟨g1,qs,g2,g3⟩| ⟨g1,g2⟩
   ·exact .inl ⟨⟨by omega,by omega,c3,g1⟩,q :: qs,by rw[g2]; rfl,by rw[g3]; rfl⟩
   exact .inr ⟨fun h=>g1 h.2.2.2,g2⟩
  rw[zao,decide_eq_false hi,cond_false,qaO (by omega)];exact .inl ⟨qcO,[],rfl,rfl⟩
theorem zmI{ps:List Int}{m:Int}(hpl:ps.length≤1000):∀(n i:Nat) (lo:Int),-1≤lo→(i=0→lo = -1)→(∀ h:i - 1<ps.length,i≠0→lo=ps[i - 1])→i≤ps.length→ps.length - i<n →
  (zkW m lo (ps.drop i)∧zbk ps m n (i:Int)=some (.go ()))∨(¬ zkW m lo (ps.drop i)∧zbk ps m n (i:Int)=some (.ret false))
 | 0,_,_,_,_,_,_,h=>absurd h (qak _)
 | n+1,i,lo,hlo,h0,hp,h1,h3=>by
  unfold zbk;by_cases hi:i<ps.length
  ·have hd:ps.drop i=ps[i]:: ps.drop (i+1):=qas hi;obtain⟨p,hpp⟩:∃ p,ps[i]=p:=⟨_,rfl⟩;rw[zao,decide_eq_true hi,cond_true,zaB hi,qaa,hd,hpp];by_cases c1:p<0
   ·refine .inr ⟨fun h=>by have:=h.1; omega,?_⟩;rw[decide_eq_true c1,cond_true,qaa,cond_true]
   by_cases c2:m≤p
   ·refine .inr ⟨fun h=>by have:=h.2.1; omega,?_⟩;rw[decide_eq_false c1,cond_false,decide_eq_true c2,cond_true,qaa,cond_true]
   rw[decide_eq_false c1,cond_false,decide_eq_false c2,cond_false];have hrec:lo<p→(zkW m lo (p :: ps.drop (i+1))∧zbk ps m n (w64 ((i:Int)+1))=some (.go ()))∨(¬ zkW m lo (p :: ps.drop (i+1))∧zbk ps m n (w64 ((i:Int)+1))=some (.ret false)):=by
    intro hlp;rw[zal (by omega)];rcases zmI hpl n (i+1) p (by omega) (fun h=>by omega) (fun h _=>by simp only[Nat.add_sub_cancel]; exact hpp.symm) hi (by omega)with⟨g1,g2⟩| ⟨g1,g2⟩
    ·exact .inl ⟨⟨hlp,by omega,g1⟩,g2⟩
    exact .inr ⟨fun h=>g1 h.2.2,g2⟩
   by_cases c3:i=0
   ·have c4:¬ ((0:Int)<(i:Int)):=by omega
    rw[decide_eq_false c4,cond_false,qaa,cond_false];exact hrec (by have:=h0 c3; omega)
   have hi1:i - 1<ps.length:=by omega
   have hlo':=hp hi1 c3;have c4:(0:Int)<(i:Int):=by omega
   rw[decide_eq_true c4,cond_true,show w64 ((i:Int) - 1)=((i - 1:Nat):Int) by rw[zm5 (by omega) (by omega)]; omega,zaB hi1,qaa,qaa,← hlo'];by_cases c5:p≤lo
   ·rw[decide_eq_true c5,cond_true];exact .inr ⟨fun h=>by have:=h.1; omega,rfl⟩
   rw[decide_eq_false c5,cond_false];exact hrec (by omega)
  rw[zao,decide_eq_false hi,cond_false,qaO (by omega)];exact .inl ⟨qcO,rfl⟩
theorem zoO{ps:List Int}{m:Int}(hpl:ps.length≤1000):∃ b,zdo ps m=some b∧(b=true↔zkW m (-1) ps):=by
 unfold zdo;rw[zau];rcases zmI (m:=m) hpl (ps.length+2) 0 (-1) (by omega) (fun _=>rfl) (fun _ h=>absurd rfl h) (qar _) (by omega)with⟨g1,g2⟩| ⟨g1,g2⟩
 ·rw[show((0:Nat):Int)=0 from rfl]at g2;rw[g2,qaa];exact⟨true,rfl,fun _=>g1,fun _=>rfl⟩
 rw[show((0:Nat):Int)=0 from rfl]at g2;rw[g2,qaa];exact⟨false,rfl,fun h=>by(cases h),fun h=>absurd h g1⟩
theorem zkS{a b:List Nat}(h:iL a=iL b):a=b:=by
 have:=congrArg (List.map Int.toNat) h;simpa [iL,qa4]using this
def znF(g c:Nat)(r:List Int):Prop:=∃ zs:List Nat,r=iL zs∧zs.length=c∧zs.sum=g
theorem ziq{y:Int×List Int}(hl:y.2.length≤1000):∀(n i r:Nat),i≤y.2.length→r≤65536→y.2.length - i<n →
  (∃ zs:List Nat,y.2.drop i=iL zs∧zs.sum≤r∧zaw y n (r:Int) (i:Int)=some (.go ((r - zs.sum:Nat):Int)))∨
  ((¬ ∃ zs:List Nat,y.2.drop i=iL zs∧zs.sum≤r)∧zaw y n (r:Int) (i:Int)=some (.ret false))
 | 0,_,_,_,_,h=>absurd h (qak _)
 | n+1,i,r,h1,hr,h3=>by
  unfold zaw;by_cases hi:i<y.2.length
  ·have hd:y.2.drop i=y.2[i]:: y.2.drop (i+1):=qas hi;obtain⟨p,hpp⟩:∃ p,y.2[i]=p:=⟨_,rfl⟩;rw[zao,decide_eq_true hi,cond_true,zaB hi,qaa,hd,hpp];by_cases c1:p<0
   ·refine .inr ⟨fun⟨zs,e,_⟩=>?_,by rw[decide_eq_true c1,cond_true,qaa,cond_true]⟩;cases zs with
    | nil=>cases e
    | cons z zs=>simp only[iL,qaE,qch]at e; omega
   by_cases c2:(r:Int)<p
   ·refine .inr ⟨fun⟨zs,e,hs⟩=>?_,by rw[decide_eq_false c1,cond_false,qaa,decide_eq_true c2,cond_true]⟩;cases zs with
    | nil=>cases e
    | cons z zs=>simp only[iL,qaE,qch]at e; rw[qbL]at hs; omega
   obtain⟨q,rfl⟩:∃ q:Nat,p=(q:Int):=⟨p.toNat,by omega⟩;rw[decide_eq_false c1,cond_false,qaa,decide_eq_false c2,cond_false,show((r:Int) - (q:Int))=((r - q:Nat):Int) by omega,za0 (by omega),zal (by omega)];rcases ziq hl n (i+1) (r - q) hi (by omega) (by omega)with⟨zs,e,hs,g⟩| ⟨g1,g2⟩
   ·refine .inl ⟨q :: zs,by rw[e]; rfl,by rw[qbL]; omega,by rw[g,qbL,Nat.sub_sub]⟩
   refine .inr ⟨fun⟨zs,e,hs⟩=>g1 ?_,g2⟩;cases zs with
   | nil=>cases e
   | cons z zs=>
    simp only[iL,qaE,qch]at e;rw[qbL]at hs;exact⟨zs,e.2,by omega⟩
  rw[zao,decide_eq_false hi,cond_false,qaO (by omega)];exact .inl ⟨[],rfl,qar _,by simp⟩
theorem zh3{g c:Nat}{nw:S_net_network}{x:S_api_Node}(hg:nw.net.grain=(g:Int))(hg2:g≤60)(hc:x.card=(c:Int)):∀(L:List (Int×List Int)),(∀ y∈L,y.2.length≤1000)→
  ((∀ y∈L,znF g c y.2)∧zav nw x L=some (.go ()))∨((¬ ∀ y∈L,znF g c y.2)∧zav nw x L=some (.ret false))
 | [],_=>.inl ⟨fun _ h=>(nomatch h),rfl⟩
 | y :: L,h=>by
  unfold zav;have hy:=h y qau;rw[hg,zau];rcases ziq hy (y.2.length+2) 0 g (qar _) (by omega) (by omega)with⟨zs,e,hs,e3⟩| ⟨e1,e3⟩
  ·rw[show((0:Nat):Int)=0 from rfl]at e3;rw[qa9]at e;rw[e3,qaa];simp only[];rw[hc,e,zap];by_cases c1:zs.length=c
   ·rw[show(((zs.length:Nat):Int)==(c:Int))=true by simp[c1],cond_true,qaa];by_cases c2:zs.sum=g
    ·rw[c2,qbZ,show(!(((0:Nat):Int)== 0))=false from rfl,cond_false];rcases zh3 hg hg2 hc L fun y hy=>h y (qat _ hy)with⟨g1,g2⟩| ⟨g1,g2⟩
     ·refine .inl ⟨fun z hz=>?_,g2⟩;rcases qaQ.1 hz with rfl | hz
      ·exact⟨zs,e,c1,c2⟩
      exact g1 z hz
     exact .inr ⟨fun hh=>g1 fun z hz=>hh z (qat _ hz),g2⟩
    rw[show(!(((g - zs.sum:Nat):Int)== 0))=true by simp; omega,cond_true];refine .inr ⟨fun hh=>?_,rfl⟩;obtain⟨zs',e',_,h7⟩:=hh y qau;rw[e]at e';have:zs=zs':=zkS e';exact c2 (by rw[this,h7])
   rw[show(((zs.length:Nat):Int)==(c:Int))=false by simp; omega,cond_false,qaa,cond_true];refine .inr ⟨fun hh=>?_,rfl⟩;obtain⟨zs',e',h6,_⟩:=hh y qau;rw[e]at e';have:=congrArg List.length e';rw[zap,zap]at this;omega
  rw[show((0:Nat):Int)=0 from rfl]at e3;rw[qa9]at e1;rw[e3,qaa];refine .inr ⟨fun hh=>e1 ?_,rfl⟩;obtain⟨zs,e,h6,h7⟩:=hh y qau;exact⟨zs,e,by omega⟩
theorem znZ(cs:List Nat)(c:Nat):zaM (cs ++ [c])=zaM cs * c:=by
 induction cs with
 | nil=>simp[zaM]
 | cons x xs ih=>show x * zaM (xs ++ [c])=x * zaM xs * c; rw[ih,qck]
theorem zl4{cs:List Nat}(h:∀ c∈cs,1≤c∧c≤4)(hl:cs.length≤8):zaM cs≤65536:=
 qay (zf9 (m:=4) (by omega) fun x hx=>(h x hx).2) (qay (qa1 (by decide) hl) (by decide))
theorem zmX{d:S_api_Net}(hn:d.nodes.length≤8):∀(n:Nat) (xs ys:List S_api_Node) (cs:List Nat),xs ++ ys=d.nodes→xs.map (·.card)=iL cs→(∀ c∈cs,1≤c∧c≤4)→ys.length<n →
  zbr d n ((zaM cs:Nat):Int) (xs.length:Int) (iL (cs ++ List.replicate ys.length 0))=some (.ret (zo0,50))∨
  ∃ cs':List Nat,d.nodes.map (·.card)=iL cs'∧(∀ c∈cs',1≤c∧c≤4)∧zbr d n ((zaM cs:Nat):Int) (xs.length:Int) (iL (cs ++ List.replicate ys.length 0))=some (.go (((zaM cs':Nat):Int),iL cs'))
 | 0,_,_,_,_,_,_,h=>absurd h (qak _)
 | n+1,xs,[],cs,h1,h2,h4,h3=>by
  unfold zbr;rw[qaS]at h1;subst h1;rw[zao,decide_eq_false (by omega),cond_false];exact .inr ⟨cs,h2,h4,by simp⟩
 | n+1,xs,y :: ys,cs,h1,h2,h4,h3=>by
  unfold zbr;have hxl:cs.length=xs.length:=by have:=congrArg List.length h2; simpa [zap]using this.symm
  have hxn:xs.length<d.nodes.length:=by rw[← h1]; simp
  have hy:d.nodes[xs.length]=y:=by simp[← h1]
  rw[zao,decide_eq_true hxn,cond_true,zaB hxn,qaa,hy];by_cases c1:y.card<1
  ·rw[decide_eq_true c1,cond_true,qaa,cond_true];exact .inl rfl
  by_cases c2:4<y.card
  ·rw[decide_eq_false c1,cond_false,decide_eq_true c2,qaa,cond_true];exact .inl rfl
  obtain⟨c,hc⟩:∃ c:Nat,y.card=(c:Int):=⟨y.card.toNat,by omega⟩;have h4':∀ z∈cs ++ [c],1≤z∧z≤4:=fun z hz=>by
   rcases qbg.1 hz with hz | hz
   ·exact h4 z hz
   rw[qa5.1 hz]; omega
  have hb:zaM (cs ++ [c])≤65536:=zl4 h4' (by simp; omega);have ih:=zmX hn n (xs ++ [y]) ys (cs ++ [c]) (by rw[← h1]; simp) (by rw[qbD,h2]; simp[iL,hc]) h4' (by simp at h3; omega);have hcx:((xs.length:Nat):Int)=((cs.length:Nat):Int):=by rw[hxl]
  rw[decide_eq_false c1,cond_false,decide_eq_false c2,qaa,cond_false,qaN,qa6,hcx,zde,qaa,hc,zfg,qaa,← qbv,← znZ,za0 (by omega),zal (by omega)];rw[show(xs ++ [y]).length=cs.length+1 by simp[hxl],show cs ++ [c]++ List.replicate ys.length 0=cs ++ c :: List.replicate ys.length 0 by simp]at ih;exact ih
theorem zhz{p:List Nat→Prop}:∀ {rows:List (List Int)},(∀ r∈rows,∃ zs:List Nat,r=iL zs∧p zs)→∃ zss:List (List Nat),rows=zss.map iL∧∀ zs∈zss,p zs
 | [],_=>⟨[],rfl,fun _ h=>nomatch h⟩
 | r :: rows,h=>by
  obtain⟨zs,e,h1⟩:=h r qau;obtain⟨zss,e2,h2⟩:=zhz (rows:=rows) fun r hr=>h r (qat _ hr)
  refine⟨zs :: zss,by rw[e,e2]; rfl,fun z hz=>?_⟩;rcases qaQ.1 hz with rfl | hz
  ·exact h1
  exact h2 z hz
theorem zrD{g c:Nat}{cs ps:List Nat}{nodes:List S_api_Node}{sets order:List Int}{x:S_api_Node}(hg2:g≤60)(hc:x.card=(c:Int))(hps:x.parents=iL ps)(hp:Pl cs.length ps)(hl:ps.length≤8)(hcs:∀ p∈ps,1≤cs.getD p 0)
  (hm:zaM (ps.map fun p=>cs.getD p 0)≤65536) (hrl:x.rows.length≤1000) (hrr:∀ r∈x.rows,r.length≤1000):
  zaF ⟨⟨(g:Int),nodes⟩,iL cs,sets,order⟩ x=some false∨zaF ⟨⟨(g:Int),nodes⟩,iL cs,sets,order⟩ x=some true∧∃ rows,x.rows=rows.map iL∧RowsOk g c (zaM (ps.map fun p=>cs.getD p 0)) rows:=by
 unfold zaF;have e:=zho (x:=x) (nodes:=⟨(g:Int),nodes⟩) (sets:=sets) (order:=order) hps hp hl hcs (ps.length+2) 0 1 (qar _) (by simpa using hm) (by omega);rw[show((0:Nat):Int)=0 from rfl,show((1:Nat):Int)=1 from rfl,qa9,qcf]at e;rw[hps,zap,zau,e,qaa];by_cases c1:x.rows.length=zaM (ps.map fun p=>cs.getD p 0)
 ·rw[show(((x.rows.length:Nat):Int)==((zaM (ps.map fun p=>cs.getD p 0):Nat):Int))=true by rw[c1]; simp,cond_true];unfold zfb;rw[qaa];have hs:zgx x.rows=some ():=by
   unfold zgx;rw[if_pos (by omega)]
  rw[hs,qaa];have hz:∀ y:Int×List Int,y∈zqn x.rows→y.2∈x.rows:=by
   intro y hy;unfold zqn at hy;obtain⟨q,hq,rfl⟩:=qaz.1 hy;have:=List.mem_zipIdx' hq;rw[this.2]; exact qap _
  rcases zh3 (g:=g) (c:=c) (nw:=⟨⟨(g:Int),nodes⟩,iL cs,sets,order⟩) (x:=x) rfl hg2 hc (zqn x.rows) (fun y hy=>hrr _ (hz y hy))with⟨g1,g2⟩| ⟨g1,g2⟩
  ·rw[g2,qaa];refine .inr ⟨rfl,?_⟩;obtain⟨rows,e1,e2⟩:=zhz (p:=fun zs=>zs.length=c∧zs.sum=g) (rows:=x.rows) fun r hr=>by
    obtain⟨i,hi,rfl⟩:=qbQ.1 hr;obtain⟨zs,h1,h2,h3⟩:=g1 ((i:Int),x.rows[i]) (qaz.2 ⟨(x.rows[i],i),List.mk_mem_zipIdx_iff_getElem?.2 (qae hi),rfl⟩);exact⟨zs,h1,h2,h3⟩
   exact⟨rows,e1,by rw[← c1,e1,qaD],e2⟩
  rw[g2,qaa];exact .inl rfl
 rw[show(((x.rows.length:Nat):Int)==((zaM (ps.map fun p=>cs.getD p 0):Nat):Int))=false by rw[beq_eq_false_iff_ne]; omega,cond_false];exact .inl rfl
structure NdOk (g:Nat) (cs:List Nat) (z:NN):Prop where
 inc:z.ps.Pairwise (· < ·)
 lt:∀ p∈z.ps,p<cs.length
 rows:RowsOk g z.c (zaM (z.ps.map fun p=>cs.getD p 0)) z.rows
theorem PsV.zu8{m v:Nat}{ps:List Int}(h:PsV m v (-1) ps):∃ qs:List Nat,ps=iL qs∧qs.Pairwise (· < ·)∧(∀ q∈qs,q<m)∧∀ q∈qs,q≠v:=by
 obtain⟨h1,h2⟩:=PsV.iff.1 h;obtain⟨qs,e,g1,_,g3⟩:=h1.zu8 (by omega);refine⟨qs,e,g1,g3,fun q hq he=>?_⟩;exact h2 (q:Int) (by rw[e]; exact qaz.2 ⟨q,hq,rfl⟩) (by rw[he])
structure BndX (k:Nat) (x:S_api_Node):Prop where
 par:x.parents.length≤k
 rows:x.rows.length≤k
 row:∀ r∈x.rows,r.length≤k
structure BndK (k:Nat) (d:S_api_Net):Prop where
 nodes:d.nodes.length≤k
 node:∀ x∈d.nodes,BndX k x
theorem BndX.mono{k m:Nat}{x:S_api_Node}(h:BndX k x)(hk:k≤m):BndX m x:=⟨qay h.par hk,qay h.rows hk,fun r hr=>qay (h.row r hr) hk⟩
theorem BndK.mono{k m:Nat}{d:S_api_Net}(h:BndK k d)(hk:k≤m):BndK m d:=⟨qay h.nodes hk,fun x hx=>(h.node x hx).mono hk⟩
abbrev Bnd(d:S_api_Net):Prop:=BndK 1000 d
theorem zmL{g:Nat}{cs:List Nat}{d:S_api_Net}(hg:d.grain=(g:Int))(hg2:g≤60)(hb:Bnd d)(hn:d.nodes.length≤8)(hcs:d.nodes.map (·.card)=iL cs)(hc:∀ c∈cs,1≤c∧c≤4):∀(n:Nat) (zs:List NN) (ys:List S_api_Node),zs.map nd ++ ys=d.nodes →
  (∀ z∈zs,NdOk g cs z)→ys.length<n →
  zbs d (iL cs) n (zs.length:Int) (iL (zs.map (fun x=>zbb x.ps)++ List.replicate ys.length 0))=some (.ret (zo0,50))∨
  ∃ ns:List NN,d.nodes=ns.map nd∧(∀ z∈ns,NdOk g cs z)∧zbs d (iL cs) n (zs.length:Int) (iL (zs.map (fun x=>zbb x.ps)++ List.replicate ys.length 0))=some (.go (iL (zah ns)))
 | 0,_,_,_,_,h=>absurd h (qak _)
 | n+1,zs,[],h1,h2,h3=>by
  unfold zbs;rw[qaS]at h1;rw[← h1,qaD,zao,decide_eq_false (by omega),cond_false];exact .inr ⟨zs,rfl,h2,by simp[zah]⟩
 | n+1,zs,y :: ys,h1,h2,h3=>by
  unfold zbs;have hxn:zs.length<d.nodes.length:=by rw[← h1]; simp
  have hy:d.nodes[zs.length]=y:=by simp[← h1]
  have hym:y∈d.nodes:=by rw[← h1]; simp
  have hcl:cs.length=d.nodes.length:=by have:=congrArg List.length hcs; simpa [zap]using this.symm
  have hyc:y.card=((cs[zs.length]'(by omega):Nat):Int):=by
   have:(d.nodes.map (·.card))[zs.length]'(by simpa using hxn)=(iL cs)[zs.length]'(by rw[zap]; omega):=by simp only[hcs]
   rw[List.getElem_map,hy,zsC (by omega)]at this;exact this
  obtain⟨c,hcc⟩:∃ c,cs[zs.length]'(by omega)=c:=⟨_,rfl⟩;rw[hcc]at hyc;rw[zao,decide_eq_true hxn,cond_true,zaB hxn,qaa,hy,qaN,qa6,zau];have e3:=zmK (v:=zs.length) (ns:=d) (x:=y) (xs:=zs.map fun x=>zbb x.ps) (ys:=List.replicate ys.length 0) hn (by simp) (hb.node y hym).par (y.parents.length+2) 0 0 (-1) (by omega) (qar _) (by decide) (by omega);rw[show((0:Nat):Int)=0 from rfl,qa9]at e3;rcases e3 with⟨g1,qs,g2,g3⟩| ⟨g1,g2⟩
  ·rw[g3,qaa];simp only[];rw[show(qs.foldl (fun m p=>m ||| 2 ^ p) 0)=zbb qs from rfl];obtain⟨qs',e,k1,k2,k3⟩:=g1.zu8;have:qs'=qs:=zkS (by rw[← e,← g2]);subst this;have hps:∀ p∈qs',p<cs.length:=fun p hp=>by rw[hcl]; exact k2 p hp
   have hq4:∀ p∈qs',1≤cs.getD p 0∧cs.getD p 0≤4:=fun p hp=>by
    have h6:=hps p hp;rw[show cs.getD p 0=cs[p] by simp[h6]];exact hc _ (qap h6)
   have hql:qs'.length≤8:=by have:=zjf k1 k2; omega
   obtain⟨G,ds⟩:=d;simp only at hg hn hcs hb hxn hy hym hcl h1 ⊢;subst hg;rcases zrD (g:=g) (c:=c) (cs:=cs) (ps:=qs') (nodes:=ds) (sets:=iL (zs.map (fun x=>zbb x.ps)++ zbb qs' :: List.replicate ys.length 0)) (order:=[]) (x:=y) hg2 hyc g2 hps hql (fun p hp=>(hq4 p hp).1)
    (zl4 (fun z hz=>by obtain⟨p,hp,rfl⟩:=qaz.1 hz; exact hq4 p hp) (by simpa using hql)) (hb.node y hym).rows (hb.node y hym).row with e4 | ⟨e4,rows,r1,r2⟩
   ·rw[e4,qaa,cond_false];exact .inl rfl
   have hnd:nd ⟨c,qs',rows⟩=y:=by
    cases y;simp only at hyc g2 r1;simp only[nd,hyc,g2,r1]
   have ih:=zmL (d:=⟨(g:Int),ds⟩) rfl hg2 hb hn hcs hc n (zs ++ [⟨c,qs',rows⟩]) ys (by rw[← h1,qbD,← hnd]; simp) (fun z hz=>by
    rcases qbg.1 hz with hz | hz
    ·exact h2 z hz
    rw[qa5.1 hz]; exact⟨k1,hps,r2⟩) (by simp at h3; omega)
   rw[e4,qaa,cond_true,zal (by omega)];rw[show(zs ++ [(⟨c,qs',rows⟩:NN)]).length=zs.length+1 by simp,show(zs ++ [(⟨c,qs',rows⟩:NN)]).map (fun x=>zbb x.ps)++ List.replicate ys.length 0=zs.map (fun x=>zbb x.ps)++ zbb qs' :: List.replicate ys.length 0 by simp]at ih;exact ih
  rw[g2,qaa];exact .inl rfl
theorem zh6{ms os:List Nat}{mask C:Nat}(hn:ms.length≤8)(hm:∀ m∈ms,m<18446744073709551616)(hk:mask<18446744073709551616)(hC:os.length+1≤C):∀(n i:Nat),i≤ms.length→(∀ u,u<i→¬ zfi ms mask u)→ms.length - i<n →
  ((∀ u,u<ms.length→¬ zfi ms mask u)∧za9 (iL ms) (mask:Int) C n (i:Int) (iL os)=some (.go ()))∨
  ∃ v,First ms mask v∧za9 (iL ms) (mask:Int) C n (i:Int) (iL os)=some (.brk (((mask ||| 2 ^ v:Nat):Int),iL (os ++ [v])))
 | 0,_,_,_,h=>absurd h (qak _)
 | n+1,i,h1,h2,h3=>by
  by_cases hi:i<ms.length
  ·obtain⟨b,hb,e,_⟩:=zkb hm hk hi (by omega) (iL os);cases b with
   | true=>
    have hf:First ms mask i:=⟨hi,hb.1 rfl,h2⟩;exact .inr ⟨i,hf,zhH hn hm hk hC hf (n+1) i (qal _) (by omega)⟩
   | false=>
    have hno:¬ zfi ms mask i:=fun h=>by have:=hb.2 h; cases this
    have ih:=zh6 hn hm hk hC n (i+1) hi (fun u hu=>by
     by_cases hui:u=i
     ·rw[hui]; exact hno
     exact h2 u (by omega)) (by omega)
    unfold za9;rw[zap,zao,decide_eq_true hi,cond_true,zbY hi,qaa,e,qaa];simp only[];rw[cond_false,zal (by omega)];exact ih
  refine .inl ⟨fun u hu=>h2 u (by omega),?_⟩;unfold za9;rw[zap,zao,decide_eq_false hi,cond_false]
theorem ziB{ms:List Nat}(hn:ms.length≤8)(hm:∀ m∈ms,m<18446744073709551616):∀(n:Nat) (os:List Nat),zcN ms os→os.length≤ms.length→ms.length - os.length<n →
  zbl (iL ms) ms.length n ((zbb os:Nat):Int) (iL os)=some (.ret ([],false))∨
  ∃ os',zcN ms os'∧os'.length=ms.length∧zbl (iL ms) ms.length n ((zbb os:Nat):Int) (iL os)=some (.go (iL os'))
 | 0,_,_,_,h=>absurd h (qak _)
 | n+1,os,h1,h2,h3=>by
  unfold zbl;rw[zap,zap,zao];by_cases hl:os.length<ms.length
  ·have hk:zbb os<18446744073709551616:=Go.Dc.zcu fun x hx=>by
    have:=h1.lt x hx;omega
   rw[decide_eq_true hl,cond_true,zau];rcases zh6 (os:=os) (C:=ms.length) hn hm hk (by omega) (ms.length+2) 0 (qar _) (fun u hu=>absurd hu (qak _)) (by omega)with⟨g1,g2⟩| ⟨v,g1,g2⟩
   ·rw[show((0:Nat):Int)=0 from rfl]at g2;rw[g2,qaa];exact .inl rfl
   rw[show((0:Nat):Int)=0 from rfl]at g2;rw[g2,qaa];simp only[];rw[← zju];exact ziB hn hm n (os ++ [v]) (h1.app g1) (by simp; omega) (by simp; omega)
  exact .inr ⟨os,h1,by omega,by rw[decide_eq_false hl,cond_false]⟩
theorem zrR{ms:List Nat}(hn:ms.length≤8)(hm:∀ m∈ms,m<18446744073709551616):
  zbL (iL ms)=some ([],false)∨∃ os,zcN ms os∧os.length=ms.length∧zbL (iL ms)=some (iL os,true):=by
 unfold zbL;rw[zap];have hcap:zsk 8 ((ms.length:Nat):Int)=some ms.length:=by
  unfold zsk;rw[if_pos ⟨qbn _,by simp only[zad]; omega⟩,qaF]
 rw[hcap,qaa,show(((ms.length:Nat):Int) - ((([]:List Int).length:Nat):Int)+2).toNat=ms.length+2 by simp; omega];have e:=ziB hn hm (ms.length+2) [] (fun k v hk=>by simp at hk) (qar _) (by simp);rw[show((zbb []:Nat):Int)=0 from rfl,show iL []=[]from rfl]at e;rcases e with e | ⟨os,g1,g2,e⟩
 ·rw[e,qaa]; exact .inl rfl
 rw[e,qaa]; exact .inr ⟨os,g1,g2,rfl⟩
theorem ztn{d:S_api_Net}(hb:Bnd d):zbp d=some (zo0,50)∨∃ g ns,d=zcp g ns∧RightN g ns:=by
 unfold zbp;by_cases c1:d.grain<1
 ·rw[decide_eq_true c1,cond_true,qaa,cond_true]; exact .inl rfl
 by_cases c2:60<d.grain
 ·rw[decide_eq_false c1,cond_false,decide_eq_true c2,cond_true,qaa,cond_true]; exact .inl rfl
 by_cases c3:(d.nodes.length:Int)<1
 ·rw[decide_eq_false c1,cond_false,decide_eq_false c2,cond_false,decide_eq_true c3,cond_true,qaa,cond_true]; exact .inl rfl
 by_cases c4:8<(d.nodes.length:Int)
 ·rw[decide_eq_false c1,cond_false,decide_eq_false c2,cond_false,decide_eq_false c3,cond_false,decide_eq_true c4,qaa,cond_true]; exact .inl rfl
 rw[decide_eq_false c1,cond_false,decide_eq_false c2,cond_false,decide_eq_false c3,cond_false,decide_eq_false c4,qaa,cond_false];have hn:d.nodes.length≤8:=by omega
 have hz:List.replicate d.nodes.length (0:Int)=iL (List.replicate d.nodes.length 0):=by simp[iL]
 rw[zeV (by omega),qaa,qaa,zau,hz];have e1:=zmX hn (d.nodes.length+2) [] d.nodes [] rfl rfl (fun _ h=>nomatch h) (by omega);simp only[qbf,qaR]at e1;rw[show((0:Nat):Int)=0 from rfl,show((zaM []:Nat):Int)=1 from rfl]at e1;rcases e1 with e1 | ⟨cs,h1,h2,e1⟩
 ·rw[e1,qaa]; exact .inl rfl
 rw[e1,qaa];simp only[];by_cases c5:(1024:Int)<((zaM cs:Nat):Int)
 ·rw[decide_eq_true c5,cond_true]; exact .inl rfl
 rw[decide_eq_false c5,cond_false];obtain⟨g,hg⟩:∃ g:Nat,d.grain=(g:Int):=⟨d.grain.toNat,by omega⟩;have e2:=zmL hg (by omega) hb hn h1 h2 (d.nodes.length+2) [] d.nodes rfl (fun _ h=>nomatch h) (by omega);simp only[qbH,qbf,qaR]at e2;rw[show((0:Nat):Int)=0 from rfl]at e2;rcases e2 with e2 | ⟨ns,h3,h4,e2⟩
 ·rw[e2,qaa]; exact .inl rfl
 rw[e2,qaa];simp only[];have hnl:ns.length=d.nodes.length:=by rw[h3,qaD]
 have hcs:ns.map (·.c)=cs:=by
  apply zkS;rw[← h1,h3];simp[iL,nd,qa4]
 have hml:(zah ns).length=ns.length:=by simp[zah]
 have hlt:∀ x∈ns,∀ p∈x.ps,p<ns.length:=fun x hx p hp=>by
  have:=(h4 x hx).lt p hp;rw[← hcs,qaD]at this;exact this
 have hmm:∀ m∈zah ns,m<18446744073709551616:=by
  intro m hm;obtain⟨x,hx,rfl⟩:=qaz.1 hm;refine Go.Dc.zcu fun p hp=>?_
  have:=hlt x hx p hp;omega
 rcases zrR (ms:=zah ns) (by omega) hmm with e3 | ⟨os,k1,k2,e3⟩
 ·rw[e3,qaa]; simp only[]; rw[cond_false]; exact .inl rfl
 refine .inr ⟨g,ns,?_,?_⟩
 ·obtain⟨G,ds⟩:=d;simp only at hg h3;rw[hg,h3]; rfl
 refine⟨by omega,by omega,by omega,by omega,fun x hx=>h2 _ (by rw[← hcs]; exact qaz.2 ⟨x,hx,rfl⟩),by rw[hcs]; omega,fun x hx=>(h4 x hx).inc,hlt,fun x hx=>by rw[hcs]; exact(h4 x hx).rows,?_⟩;refine⟨fun v=>os.idxOf v,fun v=>?_,fun v x hv p hp=>?_⟩
 ·have:=List.idxOf_le_length (a:=v) (l:=os); simp only; omega
 have hvl:=(qac.1 hv).1;refine k1.zv1 k2 v p (by omega) ?_;rw[show(zah ns).getD v 0=zbb x.ps by simp[zah,qbJ,hv],zcU];exact decide_eq_true hp
theorem BndX.fit{x:S_api_Node}(h:BndX 1000 x):FitN x:=⟨by have:=h.par; simp only[zad]; omega,by have:=h.rows; simp only[zad]; omega,fun r hr=>by have:=h.row r hr; simp only[zad]; omega⟩
theorem BndK.set{k t:Nat}{g:Int}{d:S_api_Net}{y:S_api_Node}(h:BndK k d)(hy:BndX k y):BndK k ⟨g,d.nodes.set t y⟩:=
 ⟨by simpa using h.nodes,fun x hx=>by
  rcases qbj hx with hx | hx
  ·exact h.node x hx
  rw[hx]; exact hy⟩
theorem ztD{n:Nat}:∀ {r:List Int} (i k:Nat) (hi:k+1≤r.length) (h3:k+1 - i<n) (hl:r.length≤1000),i≤k+1→∃ r2,swL n (i:Int) (k:Int) r=some r2∧r2.length=r.length:=by
 induction n with
 | zero=>intro r i k hi h3; exact absurd h3 (qak _)
 | succ n ih=>
  intro r i k hi h3 hl h4;unfold swL;rw[zao];by_cases hik:i<k
  ·rw[decide_eq_true hik,cond_true,zaB (by omega),qaa,zaB (by omega),qaa,zgH (by omega),qaa,zgH (by simp; omega),qaa,zal (by omega),
    show w64 ((k:Int) - 1)=((k - 1:Nat):Int) by rw[zm5 (by omega) (by omega)]; omega]
   obtain⟨r2,e,h5⟩:=ih (r:=(r.set i (r[k]'(by omega))).set k (r[i]'(by omega))) (i+1) (k - 1) (by simp; omega) (by omega) (by simpa using hl) (by omega);exact⟨r2,e,by simpa using h5⟩
  rw[decide_eq_false hik,cond_false];exact⟨r,rfl,rfl⟩
theorem zvJ{r:List Int}(hl:r.length≤1000):∃ r2,swL (r.length+2) 0 (w64 ((r.length:Int) - 1)) r=some r2∧r2.length=r.length:=by
 by_cases h0:r.length=0
 ·have:r=[]:=qaq h0;subst this;exact⟨[],rfl,rfl⟩
 rw[show w64 ((r.length:Int) - 1)=((r.length - 1:Nat):Int) by rw[zm5 (by omega) (by omega)]; omega];exact ztD (n:=r.length+2) 0 (r.length - 1) (by omega) (by omega) hl (by omega)
theorem zd0{b:S_haruspexref05_Bend}{n:S_api_Net}{x:S_api_Node}{t:Nat}(hb:BndK 100 n)(hx:BndX 100 x):∀ k,(k≤4∨k=10∨k=11)→∃ r,zrh b n x t k=some r∧BndK 101 r:=by
 have hb':=hb.mono (m:=101) (by omega);have hx':=hx.mono (m:=101) (by omega);rintro k (hk | rfl | rfl)
 ·match k,hk with
  | 0,_=>exact⟨_,rfl,⟨hb'.nodes,hb'.node⟩⟩
  | 1,_=>exact⟨_,rfl,hb'.set ⟨hx'.par,hx'.rows,hx'.row⟩⟩
  | 2,_=>exact⟨_,rfl,hb'.set ⟨by have:=hx.par; simp; omega,hx'.rows,hx'.row⟩⟩
  | 3,_=>exact⟨_,rfl,hb'.set ⟨by simp,hx'.rows,hx'.row⟩⟩
  | 4,_=>exact⟨_,rfl,hb'.set ⟨hx'.par,by have:=hx.rows; simp; omega,fun r hr=>by
    rcases qbg.1 hr with hr | hr
    ·exact hx'.row r hr
    rw[qa5.1 hr]; simp⟩⟩
 ·refine⟨_,rfl,⟨by have:=hb.nodes; simp; omega,fun y hy=>?_⟩⟩;rcases qbg.1 hy with hy | hy
  ·exact hb'.node y hy
  rw[qa5.1 hy];exact⟨by simp,by simp,fun r hr=>by rw[qa5.1 hr]; simp⟩
 exact⟨_,rfl,⟨by have:=hb'.nodes; simp; omega,fun y hy=>hb'.node y (qb2 hy)⟩⟩
theorem BndX.zvZ{w:Nat}{c:Int}{x:S_api_Node}{y:List Int}(hx:BndX 101 x)(hy:y.length≤101):BndX 101 ⟨c,x.parents,x.rows.set w y⟩:=
 ⟨hx.par,by simpa using hx.rows,fun r hr=>by
  rcases qbj hr with hr | hr
  ·exact hx.row r hr
  rw[hr]; exact hy⟩
theorem zq3{b:S_haruspexref05_Bend}{n:S_api_Net}{x:S_api_Node}{t w:Nat}{row:List Int}(hb:BndK 100 n)(hx:BndX 100 x)(hr:row.length≤100):∀ k,k<12→∃ r,zqa b n x t w row k=some r∧BndK 101 r:=by
 have hb':=hb.mono (m:=101) (by omega);have hx':=hx.mono (m:=101) (by omega);intro k hk
 match k,hk with
 | 0,_=>exact zd0 (b:=b) (t:=t) hb hx 0 (by omega)
 | 1,_=>exact zd0 (b:=b) (t:=t) hb hx 1 (by omega)
 | 2,_=>exact zd0 (b:=b) (t:=t) hb hx 2 (by omega)
 | 3,_=>exact zd0 (b:=b) (t:=t) hb hx 3 (by omega)
 | 4,_=>exact zd0 (b:=b) (t:=t) hb hx 4 (by omega)
 | 5,_=>exact⟨_,rfl,hb'.set ⟨hx'.par,by have:=hx.rows; simp; omega,fun r hr=>hx'.row r (qb2 hr)⟩⟩
 | 6,_=>
  refine⟨_,rfl,?_⟩;cases row.isEmpty with
  | true=>exact hb'
  | false=>exact hb'.set (hx'.zvZ (by simp; omega))
 | 7,_=>exact⟨_,rfl,hb'.set (hx'.zvZ (by simp; omega))⟩
 | 8,_=>
  refine⟨_,rfl,?_⟩;cases row.isEmpty with
  | true=>exact hb'
  | false=>exact hb'.set (hx'.zvZ (by simp; omega))
 | 9,_=>
  obtain⟨r2,e,h2⟩:=zvJ (r:=row) (by omega);refine⟨⟨n.grain,n.nodes.set t ⟨x.card,x.parents,x.rows.set w r2⟩⟩,?_,hb'.set (hx'.zvZ (by omega))⟩;show((swL (row.length+2) 0 (w64 ((row.length:Int) - 1)) row).map fun r2=>(⟨n.grain,n.nodes.set t ⟨x.card,x.parents,x.rows.set w r2⟩⟩:S_api_Net))=_;rw[e]; rfl
 | 10,_=>exact zd0 (b:=b) (t:=t) hb hx 10 (by omega)
 | 11,_=>exact zd0 (b:=b) (t:=t) hb hx 11 (by omega)
theorem znK{b:S_haruspexref05_Bend}{n:S_api_Net}(h1:0≤b.what∧b.what≤255)(h2:0≤b.at_∧b.at_≤255)(h3:0≤b.row∧b.row≤255)(hb:BndK 100 n):∃ r,zkP b n=some r∧BndK 101 r:=by
 unfold zkP;rw[if_pos ⟨h1,h2,h3,by have:=hb.nodes; simp only[zad]; omega,fun x hx=>((hb.node x hx).mono (by omega)).fit⟩];have hk:=qb3 b.what.toNat (show 12 > 0 by decide);generalize b.what.toNat % 12=k at hk ⊢;unfold zth;split
 ·exact⟨_,rfl,hb.mono (by omega)⟩
 rename_i x hx;have hxm:=hb.node x (qav hx);split
 ·cases hc:decide (5≤k) && decide (k≤9)with
  | true=>exact⟨_,rfl,hb.mono (by omega)⟩
  | false=>
   rw[cond_false];refine zd0 hb hxm k ?_;simp at hc;omega
 rename_i row hrow;exact zq3 hb hxm (hxm.row row (qav hrow)) k hk
theorem NetOk.bnd{num:List Nat}{g:Nat}{ns:List NN}(h:NetOk num g ns):BndK 100 (zcp g ns):=by
 refine⟨by have:=h.n2; simp[zcp]; omega,fun y hy=>?_⟩;obtain⟨x,hx,rfl⟩:=qaz.1 hy;obtain⟨v,hv,rfl⟩:=qbQ.1 hx;obtain⟨j,hj,hjv⟩:=qbQ.1 (h.perm.all v hv);have hn:=h.node j v ns[v] (by rw[qae hj,hjv]) (qae hv);have h3:=hn.par.len;have hc:=h.card ns[v] hx;have hm:zaM (ns[v].ps.map fun p=>(ns.map (·.c)).getD p 0)≤64:=by
  refine qay (zf9 (m:=4) (by omega) fun z hz=>?_) ?_
  ·obtain⟨p,hp,rfl⟩:=qaz.1 hz;by_cases hpl:p<ns.length
   ·have:=h.card ns[p] (qap hpl);simpa [hpl]using this.2
   simp[qbJ,show ns[p]? = none from qa7 (by omega)]
  rw[qaD];exact qay (qa1 (by decide) h3) (by decide)
 refine⟨by simp[nd,zap]; omega,by show(ns[v].rows.map iL).length≤100; rw[qaD,hn.rows.len]; omega,fun r hr=>?_⟩;obtain⟨zs,hz,rfl⟩:=qaz.1 (show r∈ns[v].rows.map iL from hr);rw[zap,(hn.rows.row zs hz).1]; omega
def upS(ms:List Nat)(s v:Nat):Nat:=if s.testBit v then s ||| ms.getD v 0 else s
def dnS(ms:List Nat)(s v:Nat):Nat:=if(ms.getD v 0) &&& s=0 then s else s ||| 2 ^ v
def upR(ms:List Nat)(s:Nat):Nat:=(List.range ms.length).foldl (upS ms) s
def dnR(ms:List Nat)(s:Nat):Nat:=(List.range ms.length).foldl (dnS ms) s
def EOk(ms:List Nat):Prop:=∀ v p,(ms.getD v 0).testBit p=true→v<ms.length∧p<ms.length
theorem Sub.zw8{a:Nat}:Sub a a:=fun _ h=>h
theorem Sub.tr{a b c:Nat}(h1:Sub a b)(h2:Sub b c):Sub a c:=fun i h=>h2 i (h1 i h)
theorem Sub.zwg{a b:Nat}(h1:Sub a b)(h2:Sub b a):a=b:=by
 apply qbG;intro i;exact qcL.2 ⟨h1 i,h2 i⟩
theorem zpW(ms:List Nat)(s v:Nat):Sub s (upS ms s v):=by
 intro i hi;unfold upS;split
 ·rw[qbl,hi,Bool.true_or]
 exact hi
theorem zoX(ms:List Nat)(s v:Nat):Sub s (dnS ms s v):=by
 intro i hi;unfold dnS;split
 ·exact hi
 rw[qbl,hi,Bool.true_or]
theorem zgL{f:Nat→Nat→Nat}(h:∀ s v,Sub s (f s v)):∀(vs:List Nat) (s:Nat),Sub s (vs.foldl f s)
 | [],s=>Sub.zw8
 | v :: vs,s=>(h s v).tr (zgL h vs (f s v))
theorem zja{f:Nat→Nat→Nat}(h:∀ s v,Sub s (f s v)):∀(vs:List Nat) (s:Nat),vs.foldl f s=s→∀ v∈vs,f s v=s
 | [],_,_,_,hv=>nomatch hv
 | v :: vs,s,he,u,hu=>by
  rw[qbU]at he;have h1:f s v=s:=Sub.zwg (by have:=zgL h vs (f s v); rw[he]at this; exact this) (h s v);rw[h1]at he;rcases qaQ.1 hu with rfl | hu
  ·exact h1
  exact zja h vs s he u hu
theorem zf6{f:Nat→Nat→Nat}{P:Nat→Prop}(h:∀ s v,P s→P (f s v)):∀(vs:List Nat) (s:Nat),P s→P (vs.foldl f s)
 | [],_,h0=>h0
 | v :: vs,s,h0=>zf6 h vs _ (h s v h0)
theorem zfY{f:Nat→Nat}{P:Nat→Prop}(h:∀ s,P s→P (f s))(s:Nat)(h0:P s):∀ k,P (iter f s k)
 | 0=>h0
 | k+1=>h _ (zfY h s h0 k)
theorem zjA{f:Nat→Nat}(h:∀ s,Sub s (f s))(s:Nat):∀ k,Sub s (iter f s k)
 | 0=>Sub.zw8
 | k+1=>(zjA h s k).tr (h _)
theorem zqW{ms:List Nat}{c s i:Nat}(h:Reach ms s i)(hi:c.testBit i=true)(hc:∀ s p,(ms.getD s 0).testBit p=true→c.testBit p=true→c.testBit s=true):c.testBit s=true:=by
 induction h with
 | refl i=>exact hi
 | step h1 h2 ih=>exact hc _ _ h1 (ih hi)
theorem zoY{a b:Nat}:a &&& b≠0↔∃ p,a.testBit p=true∧b.testBit p=true:=by
 constructor
 ·intro h;refine qaI fun hno=>h ?_
  apply qbG;intro i;rw[Nat.testBit_and,Nat.zero_testBit];cases h1:a.testBit i with
  | false=>rfl
  | true=>
   cases h2:b.testBit i with
   | false=>rfl
   | true=>exact absurd ⟨i,h1,h2⟩ hno
 rintro⟨p,h1,h2⟩ h;have:(a &&& b).testBit p=true:=by rw[Nat.testBit_and,h1,h2]; rfl
 rw[h]at this;simp at this
theorem zsE{ms:List Nat}(he:EOk ms){s:Nat}(hs:∀ x,s.testBit x=true→x<ms.length)(i:Nat):(iter (upR ms) s ms.length).testBit i=true↔∃ v,s.testBit v=true∧Reach ms v i:=by
 have hsub:∀ s,Sub s (upR ms s):=fun s=>zgL (zpW ms) _ s
 have hin:∀ s,(∀ x,s.testBit x=true→x<ms.length)→∀ x,(upR ms s).testBit x=true→x<ms.length:=fun s h=>zf6 (P:=fun s=>∀ x,s.testBit x=true→x<ms.length) (fun s v h x hx=>by
  unfold upS at hx;split at hx
  ·rw[qbl]at hx;rcases qbz.1 hx with hx | hx
   ·exact h x hx
   exact(he v x hx).2
  exact h x hx) _ s h
 have hfix:upR ms (iter (upR ms) s ms.length)=iter (upR ms) s ms.length:=by
  rcases zeL (n:=ms.length) (upR ms) hsub hin ms.length s hs with h | h
  ·exact h
  refine Sub.zwg (fun x hx=>?_) (hsub _);exact zpn h x (hin _ (zfY (P:=fun s=>∀ x,s.testBit x=true→x<ms.length) hin s hs _) x hx)
 have hclo:∀ v,(iter (upR ms) s ms.length).testBit v=true→Sub (ms.getD v 0) (iter (upR ms) s ms.length):=by
  intro v hv p hp;have h1:=zja (zpW ms) _ _ hfix v (qbr.2 (he v p hp).1);unfold upS at h1;rw[if_pos hv]at h1;rw[← h1,qbl,hp,Bool.or_true]
 constructor
 ·intro hi;refine zfY (f:=upR ms) (P:=fun t=>∀ i,t.testBit i=true→∃ v,s.testBit v=true∧Reach ms v i) (fun t ht=>?_) s (fun i hi=>⟨i,hi,.refl i⟩) ms.length i hi;refine zf6 (P:=fun t=>∀ i,t.testBit i=true→∃ v,s.testBit v=true∧Reach ms v i) (fun t v ht i hi=>?_) _ t ht;unfold upS at hi;split at hi
  ·rename_i hv;rw[qbl]at hi;rcases qbz.1 hi with hi | hi
   ·exact ht i hi
   obtain⟨u,h1,h2⟩:=ht v hv;exact⟨u,h1,h2.tr (.step hi (.refl i))⟩
  exact ht i hi
 rintro⟨v,h1,h2⟩;exact zml h2 (zjA hsub s _ v h1) hclo
theorem zuR{ms:List Nat}(he:EOk ms){s:Nat}(hs:∀ x,s.testBit x=true→x<ms.length)(i:Nat):(iter (dnR ms) s ms.length).testBit i=true↔∃ v,s.testBit v=true∧Reach ms i v:=by
 have hsub:∀ s,Sub s (dnR ms s):=fun s=>zgL (zoX ms) _ s
 have hin:∀ s,(∀ x,s.testBit x=true→x<ms.length)→∀ x,(dnR ms s).testBit x=true→x<ms.length:=fun s h=>zf6 (P:=fun s=>∀ x,s.testBit x=true→x<ms.length) (fun s v h x hx=>by
  unfold dnS at hx;split at hx
  ·exact h x hx
  rename_i hne;rw[qbl,qbp]at hx;rcases qbz.1 hx with hx | hx
  ·exact h x hx
  have:=of_decide_eq_true hx;subst this;obtain⟨p,h1,_⟩:=zoY.1 hne
  exact(he _ p h1).1) _ s h
 have hfix:dnR ms (iter (dnR ms) s ms.length)=iter (dnR ms) s ms.length:=by
  rcases zeL (n:=ms.length) (dnR ms) hsub hin ms.length s hs with h | h
  ·exact h
  refine Sub.zwg (fun x hx=>?_) (hsub _);exact zpn h x (hin _ (zfY (P:=fun s=>∀ x,s.testBit x=true→x<ms.length) hin s hs _) x hx)
 have hclo:∀ v p,(ms.getD v 0).testBit p=true→(iter (dnR ms) s ms.length).testBit p=true→(iter (dnR ms) s ms.length).testBit v=true:=by
  intro v p hp hv;have h1:=zja (zoX ms) _ _ hfix v (qbr.2 (he v p hp).1);unfold dnS at h1;rw[if_neg (zoY.2 ⟨p,hp,hv⟩)]at h1;rw[← h1,qbl,qbp,decide_eq_true rfl,Bool.or_true]
 constructor
 ·intro hi;refine zfY (f:=dnR ms) (P:=fun t=>∀ i,t.testBit i=true→∃ v,s.testBit v=true∧Reach ms i v) (fun t ht=>?_) s (fun i hi=>⟨i,hi,.refl i⟩) ms.length i hi;refine zf6 (P:=fun t=>∀ i,t.testBit i=true→∃ v,s.testBit v=true∧Reach ms i v) (fun t v ht i hi=>?_) _ t ht;unfold dnS at hi;split at hi
  ·exact ht i hi
  rename_i hne;rw[qbl,qbp]at hi;rcases qbz.1 hi with hi | hi
  ·exact ht i hi
  have:=of_decide_eq_true hi;subst this;obtain⟨p,h1,h2⟩:=zoY.1 hne;obtain⟨u,h3,h4⟩:=ht p h2;exact⟨u,h3,.step h1 h4⟩
 rintro⟨v,h1,h2⟩;exact zqW h2 (zjA hsub s _ v h1) hclo
theorem zqx{v:Nat}(h:v<64):IntKind.u64.wrap (v:Int)=(v:Int):=zet (by omega)
theorem zl6{a v:Nat}(ha:a<18446744073709551616)(hv:v<64):zbx (a:Int) (v:Int)=some (a.testBit v):=by
 obtain⟨q,h1,h2⟩:=zt8 ha hv;unfold zbx;rw[zqx hv,h1,qaa,h2];cases a.testBit v<;>rfl
theorem zvb{ms:List Nat}(hm:∀ m∈ms,m<18446744073709551616){s v:Nat}(hs:s<18446744073709551616):upS ms s v<18446744073709551616:=by
 unfold upS;split
 ·exact qbd (n:=64) hs (zdb hm v)
 exact hs
theorem zvH{ms:List Nat}{s v:Nat}(hv:v<64)(hs:s<18446744073709551616):dnS ms s v<18446744073709551616:=by
 unfold dnS;split
 ·exact hs
 exact qbd (n:=64) hs (qaW (by decide) hv)
theorem zux{ms:List Nat}(hn:ms.length≤60)(hm:∀ m∈ms,m<18446744073709551616):∀(k n v s:Nat),v+k=ms.length→s<18446744073709551616→k<n →
  zdN (iL ms) n (s:Int) (v:Int)=some (((List.range' v k).foldl (upS ms) s:Nat):Int)∧(List.range' v k).foldl (upS ms) s<18446744073709551616
 | k,0,_,_,_,_,h=>absurd h (qak _)
 | 0,n+1,v,s,h1,hs,_=>by
  refine⟨?_,hs⟩;unfold zdN;rw[zap,zao,decide_eq_false (by omega),cond_false];rfl
 | k+1,n+1,v,s,h1,hs,h3=>by
  have hv:v<ms.length:=by omega
  obtain⟨g1,g2⟩:=zux hn hm k n (v+1) (upS ms s v) (by omega) (zvb hm hs) (by omega);refine⟨?_,g2⟩;unfold zdN;rw[zap,zao,decide_eq_true hv,cond_true,zl6 hs (by omega),qaa,zal (by omega),List.range'_succ,qbU];cases hb:s.testBit v with
  | true=>
   rw[cond_true,zd1 hv,qaa,orU hs (zdb hm v),qaa,← g1];unfold upS;rw[if_pos hb]
  | false=>
   rw[cond_false,qaa,← g1];unfold upS;rw[if_neg (by rw[hb]; decide)]
theorem ziK(f:Nat→Nat)(s k:Nat):iter f s (k+1)=iter f (f s) k:=by
 induction k with
 | zero=>rfl
 | succ k ih=>show f (iter f s (k+1))=f (iter f (f s) k); rw[ih]
theorem zu7{ms:List Nat}(hn:ms.length≤60)(hm:∀ m∈ms,m<18446744073709551616):∀(k n v s:Nat),v+k=ms.length→s<18446744073709551616→k<n →
  zdQ (iL ms) n (s:Int) (v:Int)=some ((iter (upR ms) s k:Nat):Int)∧iter (upR ms) s k<18446744073709551616
 | k,0,_,_,_,_,h=>absurd h (qak _)
 | 0,n+1,v,s,h1,hs,_=>by
  refine⟨?_,hs⟩;unfold zdQ;rw[zap,zao,decide_eq_false (by omega),cond_false];rfl
 | k+1,n+1,v,s,h1,hs,h3=>by
  have hv:v<ms.length:=by omega
  obtain⟨e1,e2⟩:=zux hn hm ms.length (ms.length+2) 0 s (by omega) hs (by omega);rw[← qcH]at e1 e2;obtain⟨g1,g2⟩:=zu7 hn hm k n (v+1) (upR ms s) (by omega) e2 (by omega);rw[ziK];refine⟨?_,g2⟩;unfold zdQ;rw[show((0:Nat):Int)=0 from rfl]at e1;rw[zap,zao,decide_eq_true hv,cond_true,zau,e1,qaa,zal (by omega)];exact g1
theorem zuQ{ms:List Nat}{s:Nat}(hn:ms.length≤60)(hm:∀ m∈ms,m<18446744073709551616)(hs:s<18446744073709551616):
  zeu (iL ms) (s:Int)=some ((iter (upR ms) s ms.length:Nat):Int)∧iter (upR ms) s ms.length<18446744073709551616:=by
 obtain⟨e1,e2⟩:=zu7 hn hm ms.length (ms.length+2) 0 s (by omega) hs (by omega);refine⟨?_,e2⟩;rw[show((0:Nat):Int)=0 from rfl]at e1;unfold zeu;rw[zap,zau,e1,qaa]
theorem zvK{ms:List Nat}(hn:ms.length≤60)(hm:∀ m∈ms,m<18446744073709551616):∀(k n v s:Nat),v+k=ms.length→s<18446744073709551616→k<n →
  zcz (iL ms) n (s:Int) (v:Int)=some (((List.range' v k).foldl (dnS ms) s:Nat):Int)∧(List.range' v k).foldl (dnS ms) s<18446744073709551616
 | k,0,_,_,_,_,h=>absurd h (qak _)
 | 0,n+1,v,s,h1,hs,_=>by
  refine⟨?_,hs⟩;unfold zcz;rw[zap,zao,decide_eq_false (by omega),cond_false];rfl
 | k+1,n+1,v,s,h1,hs,h3=>by
  have hv:v<ms.length:=by omega
  obtain⟨g1,g2⟩:=zvK hn hm k n (v+1) (dnS ms s v) (by omega) (zvH (by omega) hs) (by omega);refine⟨?_,g2⟩;unfold zcz;rw[zap,zao,decide_eq_true hv,cond_true,zd1 hv,qaa,zwo (zdb hm v) hs,zal (by omega),List.range'_succ,qbU];by_cases hb:(ms.getD v 0) &&& s=0
  ·rw[show((((ms.getD v 0) &&& s:Nat):Int)== 0)=true by rw[hb]; rfl,cond_true,qaa,← g1];unfold dnS;rw[if_pos hb]
  rw[show((((ms.getD v 0) &&& s:Nat):Int)== 0)=false by rw[beq_eq_false_iff_ne]; omega,cond_false,zqx (by omega),zn9 (by omega),qaa,orU hs (qaW (n:=64) (by decide) (by omega)),qaa,← g1];unfold dnS;rw[if_neg hb]
theorem zvI{ms:List Nat}(hn:ms.length≤60)(hm:∀ m∈ms,m<18446744073709551616):∀(k n v s:Nat),v+k=ms.length→s<18446744073709551616→k<n →
  zcx (iL ms) n (s:Int) (v:Int)=some ((iter (dnR ms) s k:Nat):Int)∧iter (dnR ms) s k<18446744073709551616
 | k,0,_,_,_,_,h=>absurd h (qak _)
 | 0,n+1,v,s,h1,hs,_=>by
  refine⟨?_,hs⟩;unfold zcx;rw[zap,zao,decide_eq_false (by omega),cond_false];rfl
 | k+1,n+1,v,s,h1,hs,h3=>by
  have hv:v<ms.length:=by omega
  obtain⟨e1,e2⟩:=zvK hn hm ms.length (ms.length+2) 0 s (by omega) hs (by omega);rw[← qcH]at e1 e2;obtain⟨g1,g2⟩:=zvI hn hm k n (v+1) (dnR ms s) (by omega) e2 (by omega);rw[ziK];refine⟨?_,g2⟩;unfold zcx;rw[show((0:Nat):Int)=0 from rfl]at e1;rw[zap,zao,decide_eq_true hv,cond_true,zau,e1,qaa,zal (by omega)];exact g1
theorem zwE{ms:List Nat}{s:Nat}(hn:ms.length≤60)(hm:∀ m∈ms,m<18446744073709551616)(hs:s<18446744073709551616):
  zdC (iL ms) (s:Int)=some ((iter (dnR ms) s ms.length:Nat):Int)∧iter (dnR ms) s ms.length<18446744073709551616:=by
 obtain⟨e1,e2⟩:=zvI hn hm ms.length (ms.length+2) 0 s (by omega) hs (by omega);refine⟨?_,e2⟩;rw[show((0:Nat):Int)=0 from rfl]at e1;unfold zdC;rw[zap,zau,e1,qaa]
def zlz(ms:List Nat)(v:Nat):Prop:=∀ p,(ms.getD v 0).testBit p=true→¬ Reach ms p v
theorem zuf{ms:List Nat}(hn:ms.length≤60)(hm:∀ m∈ms,m<18446744073709551616)(he:EOk ms):∀(n v:Nat),v≤ms.length→ms.length - v<n →
  ((∀ u,v≤u→u<ms.length→zlz ms u)∧zbE (iL ms) n (v:Int)=some (.go ()))∨((∃ u,u<ms.length∧¬ zlz ms u)∧zbE (iL ms) n (v:Int)=some (.ret false))
 | 0,_,_,h=>absurd h (qak _)
 | n+1,v,h1,h3=>by
  unfold zbE;rw[zap,zao];by_cases hv:v<ms.length
  ·obtain⟨e1,e2⟩:=zuQ hn hm (zdb hm v);have hb:=zsE he (s:=ms.getD v 0) (fun x hx=>(he v x hx).2) v;rw[decide_eq_true hv,cond_true,zd1 hv,qaa,e1,qaa,zl6 e2 (by omega),qaa];cases hc:(iter (upR ms) (ms.getD v 0) ms.length).testBit v with
   | true=>
    obtain⟨p,h6,h7⟩:=hb.1 hc;exact .inr ⟨⟨v,hv,fun h=>h p h6 h7⟩,rfl⟩
   | false=>
    have hno:zlz ms v:=fun p h6 h7=>by
     have:=hb.2 ⟨p,h6,h7⟩;rw[hc]at this;cases this
    rw[cond_false,zal (by omega)];rcases zuf hn hm he n (v+1) hv (by omega)with⟨g1,g2⟩| ⟨g1,g2⟩
    ·refine .inl ⟨fun u hu hul=>?_,g2⟩;by_cases huv:u=v
     ·rw[huv]; exact hno
     exact g1 u (by omega) hul
    exact .inr ⟨g1,g2⟩
  rw[decide_eq_false hv,cond_false];exact .inl ⟨fun u h6 h7=>absurd h7 (by omega),rfl⟩
theorem zvQ{ms:List Nat}(hn:ms.length≤60)(hm:∀ m∈ms,m<18446744073709551616)(he:EOk ms):
  ((∀ u,u<ms.length→zlz ms u)∧zcf (iL ms)=some true)∨((∃ u,u<ms.length∧¬ zlz ms u)∧zcf (iL ms)=some false):=by
 unfold zcf;rw[zap,zau];rcases zuf hn hm he (ms.length+2) 0 (qar _) (by omega)with⟨g1,g2⟩| ⟨g1,g2⟩
 ·rw[show((0:Nat):Int)=0 from rfl]at g2;rw[g2,qaa];exact .inl ⟨fun u=>g1 u (qar _),rfl⟩
 rw[show((0:Nat):Int)=0 from rfl]at g2;rw[g2,qaa];exact .inr ⟨g1,rfl⟩
structure RN where
 c:Nat
 ps:List Nat
 rows:List (List Int)
def rd(x:RN):S_api_Node:=⟨x.c,iL x.ps,x.rows⟩
def P1(m:Int)(y:S_api_Node):Prop:=(1≤y.card∧y.card≤4)∧zkW m (-1) y.parents
theorem znh{d:S_api_Net}(hb:Bnd d)(hn:d.nodes.length≤8):∀(n a:Nat) (xs ys:List S_api_Node),xs ++ ys=d.nodes→a≤4 ^ xs.length→ys.length<n →
  ((∀ y∈ys,P1 (d.nodes.length:Int) y)∧zbJ d n (a:Int) (xs.length:Int)=some (.go ((a * zaM (ys.map (·.card.toNat)):Nat):Int)))∨
  ((¬ ∀ y∈ys,P1 (d.nodes.length:Int) y)∧zbJ d n (a:Int) (xs.length:Int)=some (.ret false))
 | 0,_,_,_,_,_,h=>absurd h (qak _)
 | n+1,a,xs,[],h1,h2,h3=>by
  unfold zbJ;rw[qaS]at h1;rw[← h1,zao,decide_eq_false (by omega),cond_false];exact .inl ⟨fun _ h=>(nomatch h),by simp[zaM]⟩
 | n+1,a,xs,y :: ys,h1,h2,h3=>by
  unfold zbJ;have hxn:xs.length<d.nodes.length:=by rw[← h1]; simp
  have hy:d.nodes[xs.length]=y:=by simp[← h1]
  have hym:y∈d.nodes:=by rw[← h1]; simp
  rw[zao,decide_eq_true hxn,cond_true,zaB hxn,qaa,hy];by_cases c1:y.card<1
  ·rw[decide_eq_true c1,cond_true,qaa,cond_true];exact .inr ⟨fun h=>by have:=(h y qau).1.1; omega,rfl⟩
  by_cases c2:4<y.card
  ·rw[decide_eq_false c1,cond_false,decide_eq_true c2,cond_true,qaa,cond_true];exact .inr ⟨fun h=>by have:=(h y qau).1.2; omega,rfl⟩
  obtain⟨b,e,hbb⟩:=zoO (m:=(d.nodes.length:Int)) (hb.node y hym).par;rw[decide_eq_false c1,cond_false,decide_eq_false c2,cond_false,e,qaa,qaa];cases b with
  | false=>
   exact .inr ⟨fun h=>absurd (hbb.2 (h y qau).2) (by decide),rfl⟩
  | true=>
   obtain⟨c,hc⟩:∃ c:Nat,y.card=(c:Int):=⟨y.card.toNat,by omega⟩;have hpw:4 ^ (xs.length+1)≤4 ^ 8:=qa1 (by decide) (by omega);have hac:a * c≤4 ^ (xs.length+1):=by rw[Nat.pow_succ]; exact qb8 h2 (by omega)
   rw[qaM,cond_false,hc,← qbv,za0 (by omega),zal (by omega)];have ih:=znh hb hn n (a * c) (xs ++ [y]) ys (by rw[← h1]; simp) (by simpa using hac) (by simp at h3; omega);rw[show(xs ++ [y]).length=xs.length+1 by simp]at ih;rcases ih with⟨g1,g2⟩| ⟨g1,g2⟩
   ·refine .inl ⟨fun z hz=>?_,?_⟩
    ·rcases qaQ.1 hz with rfl | hz
     ·exact⟨⟨by omega,by omega⟩,hbb.1 rfl⟩
     exact g1 z hz
    rw[g2,qaE,hc,qaF];show _=some (Out.go (((a * (c * zaM (ys.map (·.card.toNat))):Nat):Int)));rw[qck]
   exact .inr ⟨fun h=>g1 fun z hz=>h z (qat _ hz),g2⟩
theorem zue{m:Nat}:∀ {ys:List S_api_Node},(∀ y∈ys,P1 (m:Int) y)→∃ rs:List RN,ys=rs.map rd∧∀ x∈rs,(1≤x.c∧x.c≤4)∧x.ps.Pairwise (· < ·)∧∀ p∈x.ps,p<m
 | [],_=>⟨[],rfl,fun _ h=>nomatch h⟩
 | y :: ys,h=>by
  obtain⟨rs,e,h1⟩:=zue (m:=m) (ys:=ys) fun y hy=>h y (qat _ hy)
  obtain⟨⟨h2,h3⟩,h4⟩:=h y qau;obtain⟨qs,e2,g1,_,g3⟩:=h4.zu8 (by omega);refine⟨⟨y.card.toNat,qs,y.rows⟩:: rs,?_,fun x hx=>?_⟩
  ·rw[qaE,← e];congr 1
   obtain⟨c,p,r⟩:=y;simp only at h2 h3 e2;simp only[rd,e2,qbo (show 0≤c by omega)]
  rcases qaQ.1 hx with rfl | hx
  ·exact⟨by simp only; omega,g1,g3⟩
  exact h1 x hx
theorem ze8{rs:List RN}{v:Nat}(h:v<rs.length):zaK (rs.map rd) (v:Int)=some (rd rs[v]):=by
 rw[zaB (by simpa using h)]; simp
theorem zmt{g:Int}{rs:List RN}{v:Nat}(hv:v<rs.length)(hp:∀ p∈rs[v].ps,p<8)(hl:rs[v].ps.length≤8):∀(n i m:Nat),i≤rs[v].ps.length→m<18446744073709551616→rs[v].ps.length - i<n →
  zbo ⟨g,rs.map rd⟩ (v:Int) n (m:Int) (i:Int)=some (((rs[v].ps.drop i).foldl (fun m p=>m ||| 2 ^ p) m:Nat):Int)
 | 0,_,_,_,_,h=>absurd h (qak _)
 | n+1,i,m,h1,h2,h3=>by
  unfold zbo;simp only[];rw[ze8 hv,qaa,show(rd rs[v]).parents=iL rs[v].ps from rfl,zap,zao];by_cases hi:i<rs[v].ps.length
  ·have h8:=hp _ (qap hi);have hpw:2 ^ rs[v].ps[i]<18446744073709551616:=qaW (n:=64) (by decide) (by omega)
   rw[decide_eq_true hi,cond_true,zbY hi,qaa,zqx (by omega),zn9 (by omega),qaa,orU h2 hpw,zal (by omega),zmt hv hp hl n (i+1) _ hi (qbd (n:=64) h2 hpw) (by omega),
    qas hi,qbU]
  rw[decide_eq_false hi,cond_false,qaO (by omega)];rfl
def zcY(rs:List RN):List Nat:=rs.map fun x=>zbb x.ps
theorem zmW{g:Int}{rs:List RN}(hn:rs.length≤8)(hp:∀ x∈rs,x.ps.length≤8∧∀ p∈x.ps,p<8):∀(n i:Nat),i≤rs.length→rs.length - i<n →
  zbn ⟨g,rs.map rd⟩ n (i:Int) (iL (zcY (rs.take i)))=some (iL (zcY rs))
 | 0,_,_,h=>absurd h (qak _)
 | n+1,i,h1,h3=>by
  unfold zbn;simp only[];rw[qaD,zao];by_cases hi:i<rs.length
  ·obtain⟨k1,k2⟩:=hp _ (qap hi);have e:=zmt (g:=g) hi k2 k1 (rs[i].ps.length+2) 0 0 (qar _) (by decide) (by omega);rw[show((0:Nat):Int)=0 from rfl,qa9]at e
   rw[decide_eq_true hi,cond_true,ze8 hi,qbq,show(rd rs[i]).parents.length=rs[i].ps.length by simp[rd,zap],zau,e,qaa,
    show(rs[i].ps.foldl (fun m p=>m ||| 2 ^ p) 0)=zbb rs[i].ps from rfl,zdT (by rw[zap]; simp[zcY]; omega),qaa,zal (by omega)]
   have ih:=zmW (g:=g) hn hp n (i+1) hi (by omega);rw[← ih];congr 1
   rw[List.take_add_one,qae hi];simp only[zcY,iL,Option.toList_some,qbD,qaE,qbH]
  rw[decide_eq_false hi,cond_false,qaJ (by omega)]
theorem zmV{g:Int}{rs:List RN}(hn:rs.length≤8)(hp:∀ x∈rs,x.ps.length≤8∧∀ p∈x.ps,p<8):za6 ⟨g,rs.map rd⟩=some (iL (zcY rs)):=by
 have e:=zmW (g:=g) hn hp (rs.length+2) 0 (qar _) (by omega);rw[show((0:Nat):Int)=0 from rfl,qbi,show iL (zcY [])=[]from rfl]at e;unfold za6;simp only[];rw[qaD,zau,e,qaa]
theorem zx0{g:Int}{rs:List RN}{v:Nat}(hl:rs.length≤8)(hv:v<rs.length)(hp:Pl rs.length rs[v].ps)(h8:rs[v].ps.length≤8):
  zaI ⟨g,rs.map rd⟩ (v:Int)=some (iL (rs[v].ps.map fun p=>(rs.map (·.c)).getD p 0)):=by
 unfold zaI;rw[ze8 hv,qaa,zm4 (by simpa using hl),qaa];have hc:(rs.map rd).map (·.card)=iL (rs.map (·.c)):=by simp[iL,rd,qa4]
 simp only[];rw[hc,show(rd rs[v]).parents=iL rs[v].ps from rfl,zuc (by rw[zap,qaD]; exact hp) h8,qaa];congr 1
 simp only[zpQ];simp only[iL,qcM,qa4]
theorem zmu{g:Nat}{d:S_api_Net}{r:List Int}(hg:d.grain=(g:Int))(hg2:g≤60)(hl:r.length≤1000):∀(n i a:Nat),i≤r.length→a≤60 * i→r.length - i<n →
  (∃ zs:List Nat,r.drop i=iL zs∧(∀ z∈zs,z≤g)∧zcd r d n (a:Int) (i:Int)=some (.go ((a+zs.sum:Nat):Int)))∨
  ((¬ ∃ zs:List Nat,r.drop i=iL zs∧∀ z∈zs,z≤g)∧zcd r d n (a:Int) (i:Int)=some (.ret false))
 | 0,_,_,_,_,h=>absurd h (qak _)
 | n+1,i,a,h1,h2,h3=>by
  unfold zcd;by_cases hi:i<r.length
  ·have hd:r.drop i=r[i]:: r.drop (i+1):=qas hi;obtain⟨p,hpp⟩:∃ p,r[i]=p:=⟨_,rfl⟩;rw[zao,decide_eq_true hi,cond_true,zaB hi,qaa,hd,hpp,hg];by_cases c1:p<0
   ·refine .inr ⟨fun⟨zs,e,_⟩=>?_,by rw[decide_eq_true c1,cond_true,qaa,cond_true]⟩;cases zs with
    | nil=>cases e
    | cons z zs=>simp only[iL,qaE,qch]at e; omega
   by_cases c2:(g:Int)<p
   ·refine .inr ⟨fun⟨zs,e,hs⟩=>?_,by rw[decide_eq_false c1,cond_false,decide_eq_true c2,qaa,cond_true]⟩;cases zs with
    | nil=>cases e
    | cons z zs=>simp only[iL,qaE,qch]at e; have:=hs z qau; omega
   obtain⟨q,rfl⟩:∃ q:Nat,p=(q:Int):=⟨p.toNat,by omega⟩;rw[decide_eq_false c1,cond_false,decide_eq_false c2,qaa,cond_false,qaa,← qcJ,za0 (by omega),zal (by omega)];rcases zmu hg hg2 hl n (i+1) (a+q) hi (by omega) (by omega)with⟨zs,e,hs,g3⟩| ⟨g1,g2⟩
   ·refine .inl ⟨q :: zs,by rw[e]; rfl,fun z hz=>?_,by rw[g3,qbL,qbx]⟩;rcases qaQ.1 hz with rfl | hz
    ·omega
    exact hs z hz
   refine .inr ⟨fun⟨zs,e,hs⟩=>g1 ?_,g2⟩;cases zs with
   | nil=>cases e
   | cons z zs=>
    simp only[iL,qaE,qch]at e;exact⟨zs,e.2,fun z hz=>hs z (qat _ hz)⟩
  rw[zao,decide_eq_false hi,cond_false,qaO (by omega)];exact .inl ⟨[],rfl,fun _ h=>(nomatch h),by simp⟩
theorem zsh:∀ {zs:List Nat} {z:Nat},z∈zs→z≤zs.sum
 | x :: xs,z,h=>by
  rw[qbL];rcases qaQ.1 h with rfl | h
  ·omega
  have:=zsh h; omega
theorem zna{g c:Nat}{d:S_api_Net}{x:S_api_Node}(hg:d.grain=(g:Int))(hg2:g≤60)(hc:x.card=(c:Int))(hb:BndX 1000 x):∀(n i:Nat),i≤x.rows.length→x.rows.length - i<n →
  ((∀ r∈x.rows.drop i,znF g c r)∧zb8 x d n (i:Int)=some (.go ()))∨((¬ ∀ r∈x.rows.drop i,znF g c r)∧zb8 x d n (i:Int)=some (.ret false))
 | 0,_,_,h=>absurd h (qak _)
 | n+1,i,h1,h3=>by
  unfold zb8;by_cases hi:i<x.rows.length
  ·have hd:x.rows.drop i=x.rows[i]:: x.rows.drop (i+1):=qas hi;have hrl:=hb.row _ (qap hi);have hrows:=hb.rows;obtain⟨r,hr⟩:∃ r,x.rows[i]=r:=⟨_,rfl⟩;rw[hr]at hrl hd;rw[zao,decide_eq_true hi,cond_true,zaB hi,qaa,hr,hc,hd];by_cases c1:r.length=c
   ·rw[show(((r.length:Nat):Int)==(c:Int))=true by rw[c1]; simp,cond_true,zau];have e4:=zmu (g:=g) (d:=d) hg hg2 hrl (r.length+2) 0 0 (qar _) (by omega) (by omega);rw[show((0:Nat):Int)=0 from rfl,qa9]at e4;rcases e4 with⟨zs,e,hs,e4⟩| ⟨g1,e4⟩
    ·rw[e4,qaa];simp only[];rw[qa0,hg];by_cases c2:zs.sum=g
     ·have hok:znF g c r:=⟨zs,e,by rw[← c1,e,zap],c2⟩;rw[show(((zs.sum:Nat):Int)==(g:Int))=true by rw[c2]; simp,cond_true,zal (by omega)];rcases zna hg hg2 hc hb n (i+1) hi (by omega)with⟨g1,g2⟩| ⟨g1,g2⟩
      ·refine .inl ⟨fun z hz=>?_,g2⟩;rcases qaQ.1 hz with rfl | hz
       ·exact hok
       exact g1 z hz
      exact .inr ⟨fun h=>g1 fun z hz=>h z (qat _ hz),g2⟩
     rw[show(((zs.sum:Nat):Int)==(g:Int))=false by rw[beq_eq_false_iff_ne]; omega,cond_false];refine .inr ⟨fun h=>?_,rfl⟩;obtain⟨zs',e',_,h7⟩:=h r qau;exact c2 (by rw[zkS (e.symm.trans e'),h7])
    rw[e4,qaa];refine .inr ⟨fun h=>g1 ?_,rfl⟩;obtain⟨zs',e',_,h7⟩:=h r qau;exact⟨zs',e',fun z hz=>by rw[← h7]; exact zsh hz⟩
   rw[show(((r.length:Nat):Int)==(c:Int))=false by rw[beq_eq_false_iff_ne]; omega,cond_false];refine .inr ⟨fun h=>?_,rfl⟩;obtain⟨zs',e',h6,_⟩:=h r qau;exact c1 (by rw[e',zap,h6])
  rw[zao,decide_eq_false hi,cond_false,qaO (by omega)];exact .inl ⟨fun _ h=>(nomatch h),rfl⟩
def P2(g:Nat)(cs:List Nat)(x:RN):Prop:=x.rows.length=zaM (x.ps.map fun p=>cs.getD p 0)∧∀ r∈x.rows,znF g x.c r
theorem zmY{g:Nat}{rs:List RN}(hg2:g≤60)(hn:rs.length≤8)(hb:∀ x∈rs,BndX 1000 (rd x))(hr:∀ x∈rs,(1≤x.c∧x.c≤4)∧x.ps.Pairwise (· < ·)∧∀ p∈x.ps,p<rs.length):∀(n i:Nat),i≤rs.length→rs.length - i<n →
  ((∀ x∈rs.drop i,P2 g (rs.map (·.c)) x)∧zb9 ⟨(g:Int),rs.map rd⟩ n (i:Int)=some (.go ()))∨((¬ ∀ x∈rs.drop i,P2 g (rs.map (·.c)) x)∧zb9 ⟨(g:Int),rs.map rd⟩ n (i:Int)=some (.ret false))
 | 0,_,_,h=>absurd h (qak _)
 | n+1,i,h1,h3=>by
  unfold zb9;simp only[];rw[qaD,zao];by_cases hi:i<rs.length
  ·have hd:rs.drop i=rs[i]:: rs.drop (i+1):=qas hi;obtain⟨⟨k1,k2⟩,k3,k4⟩:=hr _ (qap hi);have hbx:=hb _ (qap hi);have hpl:rs[i].ps.length≤8:=by have:=zjf k3 k4; omega
   have hq4:∀ z∈rs[i].ps.map (fun p=>(rs.map (·.c)).getD p 0),1≤z∧z≤4:=fun z hz=>by
    obtain⟨p,hp,rfl⟩:=qaz.1 hz;have h6:=k4 p hp;rw[show(rs.map (·.c)).getD p 0=rs[p].c by simp[h6]];exact(hr _ (qap h6)).1
   rw[decide_eq_true hi,cond_true,ze8 hi,qaa,zx0 hn hi k4 hpl,qaa,zpf (fun z hz=>(hq4 z hz).1) (by simpa using hpl) (zl4 hq4 (by simpa using hpl)),qaa,hd,
    show(rd rs[i]).rows=rs[i].rows from rfl]
   by_cases c1:rs[i].rows.length=zaM (rs[i].ps.map fun p=>(rs.map (·.c)).getD p 0)
   ·rw[show(((rs[i].rows.length:Nat):Int)==((zaM (rs[i].ps.map fun p=>(rs.map (·.c)).getD p 0):Nat):Int))=true by rw[c1]; simp,cond_true,zau];have e3:=zna (g:=g) (c:=rs[i].c) (d:=⟨(g:Int),rs.map rd⟩) (x:=rd rs[i]) rfl hg2 rfl hbx ((rd rs[i]).rows.length+2) 0 (qar _) (by omega);rw[show((0:Nat):Int)=0 from rfl,qa9,show(rd rs[i]).rows=rs[i].rows from rfl]at e3;rcases e3 with⟨g1,e3⟩| ⟨g1,e3⟩
    ·rw[e3,qaa];simp only[];rw[zal (by omega)];rcases zmY hg2 hn hb hr n (i+1) hi (by omega)with⟨g3,g2⟩| ⟨g3,g2⟩
     ·refine .inl ⟨fun z hz=>?_,g2⟩;rcases qaQ.1 hz with rfl | hz
      ·exact⟨c1,g1⟩
      exact g3 z hz
     exact .inr ⟨fun h=>g3 fun z hz=>h z (qat _ hz),g2⟩
    rw[e3,qaa];exact .inr ⟨fun h=>g1 (h _ qau).2,rfl⟩
   rw[show(((rs[i].rows.length:Nat):Int)==((zaM (rs[i].ps.map fun p=>(rs.map (·.c)).getD p 0):Nat):Int))=false by rw[beq_eq_false_iff_ne]; omega,cond_false];exact .inr ⟨fun h=>c1 (h _ qau).1,rfl⟩
  rw[decide_eq_false hi,cond_false,qaO (by omega)];exact .inl ⟨fun _ h=>(nomatch h),rfl⟩
def zsa(d:S_api_Net):Prop:=∃ g ns,d=zcp g ns∧RightN g ns
theorem zvd{g:Nat}{cs:List Nat}:∀ {rs:List RN},(∀ x∈rs,P2 g cs x)→∃ ns:List NN,rs.map rd=ns.map nd∧rs.map (·.c)=ns.map (·.c)∧rs.map (·.ps)=ns.map (·.ps)∧∀ z∈ns,RowsOk g z.c (zaM (z.ps.map fun p=>cs.getD p 0)) z.rows
 | [],_=>⟨[],rfl,rfl,rfl,fun _ h=>nomatch h⟩
 | x :: rs,h=>by
  obtain⟨ns,e1,e2,e3,h1⟩:=zvd (g:=g) (cs:=cs) (rs:=rs) fun y hy=>h y (qat _ hy)
  obtain⟨h2,h3⟩:=h x qau;obtain⟨zss,e4,h4⟩:=zhz (p:=fun zs=>zs.length=x.c∧zs.sum=g) (rows:=x.rows) fun r hr=>by
   obtain⟨zs,k1,k2,k3⟩:=h3 r hr;exact⟨zs,k1,k2,k3⟩
  refine⟨⟨x.c,x.ps,zss⟩:: ns,?_,by simp only[qaE,e2],by simp only[qaE,e3],fun z hz=>?_⟩
  ·rw[qaE,qaE,e1];congr 1
   simp only[rd,nd,e4]
  rcases qaQ.1 hz with rfl | hz
  ·exact⟨by simp only; rw[← h2,e4,qaD],h4⟩
  exact h1 z hz
theorem zk7{n:Nat}{pss:List (List Nat)}(hl:pss.length=n)(hp:∀ ps∈pss,∀ p∈ps,p<n):EOk (pss.map zbb):=by
 intro v p h;by_cases hv:v<pss.length
 ·rw[show(pss.map zbb).getD v 0=zbb pss[v] by simp[hv],zcU]at h;have:=hp _ (qap hv) p (of_decide_eq_true h);exact⟨by simpa using hv,by simpa [hl]using this⟩
 rw[show(pss.map zbb).getD v 0=0 by simp[hv]]at h;simp at h
theorem zq1{ms:List Nat}(hn:ms.length≤8)(hm:∀ m∈ms,m<18446744073709551616)(he:EOk ms)(hno:∀ u,u<ms.length→zlz ms u):∃ os,zcN ms os∧os.length=ms.length:=by
 have step:∀ k,k≤ms.length→∃ os,zcN ms os∧os.length=k:=by
  intro k;induction k with
  | zero=>exact fun _=>⟨[],fun k v hk=>by simp at hk,rfl⟩
  | succ k ih=>
   intro hk;obtain⟨os,h1,h2⟩:=ih (by omega);have:∃ v,v<ms.length∧zfi ms (zbb os) v:=qaI fun hn=>by
    obtain⟨v,p,h3,h4,h5⟩:=zlB (ms:=ms) (os:=os) (fun v p h=>(he v p h).2) (by omega) h1.nod fun v hv hr=>hn ⟨v,hv,hr⟩
    exact hno v h3 p h4 h5
   obtain⟨v,hv,hr⟩:=this;obtain⟨u,hu⟩:=zne v hv hr;exact⟨os ++ [u],h1.app hu,by simp[h2]⟩
 exact step ms.length (qal _)
theorem RightN.zwQ{g:Nat}{ns:List NN}(h:RightN g ns):∀ u,u<(zah ns).length→zlz (zah ns) u:=by
 obtain⟨rk,hg,_⟩:=h.gok;intro u hu p hp hr;have h1:=zn7 (rk:=rk) (fun v p h=>(hg.down v p h).2) hr;have h2:=(hg.down u p hp).2;omega
theorem RightN.p1{g:Nat}{ns:List NN}(h:RightN g ns):∀ y∈ns.map nd,P1 (ns.length:Int) y:=by
 intro y hy;obtain⟨x,hx,rfl⟩:=qaz.1 hy;have hc:=h.card x hx;exact⟨⟨by simp only[nd]; omega,by simp only[nd]; omega⟩,zkW.of (h.inc x hx) (fun q _=>by omega) (h.lt x hx)⟩
theorem zpa{d:S_api_Net}(hb:Bnd d):(zsa d∧zcv d=some true)∨(¬ zsa d∧zcv d=some false):=by
 unfold zcv;by_cases c1:d.grain<1
 ·rw[decide_eq_true c1,cond_true,qaa,cond_true];exact .inr ⟨fun⟨g,ns,e,h⟩=>by subst e; have:=h.g1; simp only[zcp]at c1; omega,rfl⟩
 by_cases c2:60<d.grain
 ·rw[decide_eq_false c1,cond_false,decide_eq_true c2,cond_true,qaa,cond_true];exact .inr ⟨fun⟨g,ns,e,h⟩=>by subst e; have:=h.g2; simp only[zcp]at c2; omega,rfl⟩
 by_cases c3:(d.nodes.length:Int)<1
 ·rw[decide_eq_false c1,cond_false,decide_eq_false c2,cond_false,decide_eq_true c3,cond_true,qaa,cond_true];exact .inr ⟨fun⟨g,ns,e,h⟩=>by subst e; have:=h.n1; simp only[zcp,qaD]at c3; omega,rfl⟩
 by_cases c4:8<(d.nodes.length:Int)
 ·rw[decide_eq_false c1,cond_false,decide_eq_false c2,cond_false,decide_eq_false c3,cond_false,decide_eq_true c4,qaa,cond_true];exact .inr ⟨fun⟨g,ns,e,h⟩=>by subst e; have:=h.n2; simp only[zcp,qaD]at c4; omega,rfl⟩
 rw[decide_eq_false c1,cond_false,decide_eq_false c2,cond_false,decide_eq_false c3,cond_false,decide_eq_false c4,qaa,cond_false,zau];have hn:d.nodes.length≤8:=by omega
 have e1:=znh hb hn (d.nodes.length+2) 1 [] d.nodes rfl (by decide) (by omega);rw[qaR,show((0:Nat):Int)=0 from rfl,show((1:Nat):Int)=1 from rfl,qcf]at e1;rcases e1 with⟨g1,e1⟩| ⟨g1,e1⟩
 case inr=>
  rw[e1,qaa];exact .inr ⟨fun⟨g,ns,e,h⟩=>g1 (by subst e; have:=h.p1; simpa [zcp]using this),rfl⟩
 rw[e1,qaa];simp only[];obtain⟨rs,e2,h2⟩:=zue g1;obtain⟨g,hg⟩:∃ g:Nat,d.grain=(g:Int):=⟨d.grain.toNat,by omega⟩;obtain⟨G,ds⟩:=d;simp only at hg e2;subst hg e2;simp only[qaD]at *;have hcs:(rs.map rd).map (fun y:S_api_Node=>y.card.toNat)=rs.map (·.c):=by simp[rd,qa4]
 rw[hcs];by_cases c5:(1024:Int)<((zaM (rs.map (·.c)):Nat):Int)
 ·rw[decide_eq_true c5,cond_true,qaa,cond_true];refine .inr ⟨fun⟨g',ns,e,h⟩=>?_,rfl⟩;have:rs.map (·.c)=ns.map (·.c):=by
   have h6:=congrArg (fun d:S_api_Net=>d.nodes.map fun y=>y.card.toNat) e;simpa [zcp,rd,nd,qa4]using h6
  have h7:=h.prod;rw[← this]at h7;omega
 have hp8:∀ x∈rs,x.ps.length≤8∧∀ p∈x.ps,p<8:=fun x hx=>by
  obtain⟨_,k3,k4⟩:=h2 x hx;exact⟨by have:=zjf k3 k4; omega,fun p hp=>by have:=k4 p hp; omega⟩
 have hmm:∀ m∈zcY rs,m<18446744073709551616:=by
  intro m hm;obtain⟨x,hx,rfl⟩:=qaz.1 hm;exact Go.Dc.zcu fun p hp=>by have:=(hp8 x hx).2 p hp; omega
 have hml:(zcY rs).length=rs.length:=by simp[zcY]
 have hmp:zcY rs=(rs.map (·.ps)).map zbb:=by simp[zcY,qa4]
 have heo:EOk (zcY rs):=by
  rw[hmp];refine zk7 (n:=rs.length) (by simp) fun ps hps p hp=>?_
  obtain⟨x,hx,rfl⟩:=qaz.1 hps;exact(h2 x hx).2.2 p hp
 rw[decide_eq_false c5,cond_false,zmV (by omega) hp8,qaa];rcases zvQ (ms:=zcY rs) (by omega) hmm heo with⟨g3,e3⟩| ⟨g3,e3⟩
 case inr=>
  rw[e3,qaa,qaa,qbw,cond_true];refine .inr ⟨fun⟨g',ns,e,h⟩=>?_,rfl⟩;have:zcY rs=zah ns:=by
   have h6:=congrArg (fun d:S_api_Net=>d.nodes.map fun y=>zbb (y.parents.map Int.toNat)) e;simpa [zcp,rd,nd,qa4,zcY,zah,iL]using h6
  rw[this]at g3;obtain⟨u,hu,hno⟩:=g3;exact hno (h.zwQ u hu)
 rw[e3,qaa,qaa,qaM,cond_false];have e4:=zmY (g:=g) (rs:=rs) (by omega) (by omega) (fun x hx=>hb.node _ (qaz.2 ⟨x,hx,rfl⟩)) h2 (rs.length+2) 0 (qar _) (by omega);rw[show((0:Nat):Int)=0 from rfl,qa9]at e4;rcases e4 with⟨g4,e4⟩| ⟨g4,e4⟩
 ·rw[e4,qaa];refine .inl ⟨?_,rfl⟩;obtain⟨ns,k1,k2,k3,k4⟩:=zvd g4;have hnl:ns.length=rs.length:=by have:=congrArg List.length k1; simpa using this.symm
  have hmo:zcY rs=zah ns:=by rw[hmp,k3]; simp[zah,qa4]
  obtain⟨os,o1,o2⟩:=zq1 (ms:=zcY rs) (by omega) hmm heo g3;have hz:∀ z∈ns,∃ x∈rs,x.c=z.c∧x.ps=z.ps:=by
   intro z hz;obtain⟨i,hi,rfl⟩:=qbQ.1 hz;refine⟨rs[i]'(by omega),qap _,?_,?_⟩
   ·have:=congrArg (fun l:List Nat=>l[i]?) k2;simpa [hi,show i<rs.length by omega]using this
   have:=congrArg (fun l:List (List Nat)=>l[i]?) k3;simpa [hi,show i<rs.length by omega]using this
  refine⟨g,ns,by rw[k1]; rfl,by omega,by omega,by omega,by omega,fun z hzm=>?_,by rw[← k2]; omega,fun z hzm=>?_,fun z hzm=>?_,fun z hzm=>by rw[← k2]; exact k4 z hzm,?_⟩
  ·obtain⟨x,hx,q1,q2⟩:=hz z hzm;rw[← q1]; exact(h2 x hx).1
  ·obtain⟨x,hx,q1,q2⟩:=hz z hzm;rw[← q2]; exact(h2 x hx).2.1
  ·obtain⟨x,hx,q1,q2⟩:=hz z hzm;rw[← q2,hnl]; exact(h2 x hx).2.2
  refine⟨fun v=>os.idxOf v,fun v=>?_,fun v x hv p hp=>?_⟩
  ·have:=List.idxOf_le_length (a:=v) (l:=os); simp only; omega
  have hvl:=(qac.1 hv).1;refine o1.zv1 o2 v p (by omega) ?_;rw[hmo,show(zah ns).getD v 0=zbb x.ps by simp[zah,qbJ,hv],zcU];exact decide_eq_true hp
 rw[e4,qaa];refine .inr ⟨fun⟨g',ns,e,h⟩=>g4 fun x hx=>?_,rfl⟩;have hgg:(g:Int)=(g':Int):=congrArg S_api_Net.grain e;have hgg:g=g':=by omega
 subst hgg;have hn':rs.map rd=ns.map nd:=congrArg S_api_Net.nodes e;have hcc:rs.map (·.c)=ns.map (·.c):=by
  have h6:=congrArg (fun l:List S_api_Node=>l.map fun y=>y.card.toNat) hn';simpa [rd,nd,qa4]using h6
 obtain⟨i,hi,rfl⟩:=qbQ.1 hx;have hil:i<ns.length:=by have:=congrArg List.length hn'; simp at this; omega
 have h6:=congrArg (fun l:List S_api_Node=>l[i]?) hn';simp only[qbc,qae hi,qae hil,qaK,qad]at h6;have q1:rs[i].c=ns[i].c:=by have:=congrArg S_api_Node.card h6; simp only[rd,nd]at this; omega
 have q2:rs[i].ps=ns[i].ps:=zkS (congrArg S_api_Node.parents h6);have q3:rs[i].rows=ns[i].rows.map iL:=congrArg S_api_Node.rows h6;have hro:=h.rows _ (qap hil);refine⟨by rw[q3,qaD,hro.len,q2,hcc],fun r hr=>?_⟩;rw[q3]at hr;obtain⟨zs,hz,rfl⟩:=qaz.1 hr;have:=hro.row zs hz;exact⟨zs,rfl,by rw[q1]; exact this.1,this.2⟩
theorem zsw{xs:List Int}(hl:xs.length≤1000):∀(n i:Nat),i≤xs.length→xs.length - i<n→zc1 xs xs n (i:Int)=some (.go ())
 | 0,_,_,h=>absurd h (qak _)
 | n+1,i,h1,h3=>by
  unfold zc1;rw[zao];by_cases hi:i<xs.length
  ·rw[decide_eq_true hi,cond_true,zaB hi,qaa,qaa,beq_self_eq_true,cond_true,zal (by omega),zsw hl n (i+1) hi (by omega)]
  rw[decide_eq_false hi,cond_false]
theorem zsS{xs:List Int}(hl:xs.length≤1000):zdG xs xs=some true:=by
 unfold zdG;have e:=zsw hl (xs.length+2) 0 (qar _) (by omega);rw[show((0:Nat):Int)=0 from rfl]at e;rw[beq_self_eq_true,cond_true,zau,e,qaa]
theorem zsn{xs:List Int}(hl:xs.length≤1000):∀(n i:Nat),i≤xs.length→xs.length - i<n→zc4 xs xs n (i:Int)=some (.go ())
 | 0,_,_,h=>absurd h (qak _)
 | n+1,i,h1,h3=>by
  unfold zc4;rw[zao];by_cases hi:i<xs.length
  ·rw[decide_eq_true hi,cond_true,zaB hi,qaa,qaa,beq_self_eq_true,cond_true,zal (by omega),zsn hl n (i+1) hi (by omega)]
  rw[decide_eq_false hi,cond_false]
theorem zo9{xs:List Int}(hl:xs.length≤1000):zcK xs xs=some true:=by
 unfold zcK;have e:=zsn hl (xs.length+2) 0 (qar _) (by omega);rw[show((0:Nat):Int)=0 from rfl]at e;rw[beq_self_eq_true,cond_true,zau,e,qaa]
theorem zqh{ms:List Nat}{mask i:Nat}(hm:∀ m∈ms,m<18446744073709551616)(hk:mask<18446744073709551616)(hi:i<ms.length)(h64:i<64):
  ∃ b:Bool,(b=true↔zfi ms mask i)∧((zbx (mask:Int) (i:Int)).bind fun r3=>bif r3 then some false else((zaK (iL ms) (i:Int)).bind fun x6=>some ((zqR .u64 x6 (mask:Int))== 0)))=some b:=by
 rw[zl6 hk h64,qaa,zd1 hi,qaa,zv0];have hmi:=zdb hm i;cases hb:mask.testBit i with
 | true=>exact⟨false,by simp[zfi,hb],rfl⟩
 | false=>
  refine⟨(((diff (ms.getD i 0) mask:Nat):Int)== 0),?_,rfl⟩;rw[zfi,hb,← zkF hmi hk];simp only[true_and,beq_iff_eq];omega
theorem zmM{ms os:List Nat}{mask v:Nat}(hn:ms.length≤8)(hm:∀ m∈ms,m<18446744073709551616)(hk:mask<18446744073709551616)(ho:os.length≤8)(hv:First ms mask v):∀(n i:Nat),i≤v→v - i<n →
  zcM (iL ms) (mask:Int) (iL os) n (i:Int)=some (((mask ||| 2 ^ v:Nat):Int),iL (os ++ [v]))
 | 0,_,_,h=>absurd h (qak _)
 | n+1,i,h1,h3=>by
  have hvl:=hv.lt;have hi:i<ms.length:=by omega
  obtain⟨b,hb,e⟩:=zqh hm hk hi (by omega);unfold zcM;rw[zap,zao,decide_eq_true hi,cond_true,e,qaa];by_cases hiv:i=v
  ·subst hiv;rw[hb.2 hv.ready,cond_true,zdT (by rw[zap]; simp; omega),qaa,zqx (by omega),zn9 (by omega),qaa,orU hk (qaW (n:=64) (by decide) (by omega))];simp[iL]
  have:b=false:=by
   cases b with
   | false=>rfl
   | true=>exact absurd (hb.1 rfl) (hv.least i (by omega))
  rw[this,cond_false,zal (by omega),zmM hn hm hk ho hv n (i+1) (by omega) (by omega)]
theorem zmP{ms os:List Nat}(hn:ms.length≤8)(hm:∀ m∈ms,m<18446744073709551616)(hg:zcN ms os)(hl:os.length=ms.length):∀(n k:Nat),k≤os.length→os.length - k<n →
  zcB (iL ms) n ((zbb (os.take k):Nat):Int) (iL (os.take k))=some (iL os)
 | 0,_,_,h=>absurd h (qak _)
 | n+1,k,h1,h3=>by
  unfold zcB;have hkl:(os.take k).length=k:=by simp; omega
  rw[zap,zap,hkl,zao];by_cases hk:k<os.length
  ·have hf:=hg k os[k] (qae hk);have h64:zbb (os.take k)<18446744073709551616:=Go.Dc.zcu fun x hx=>by
    have:=hg.lt x (qb2 hx);omega
   have e:=zmM (os:=os.take k) hn hm h64 (by omega) hf (ms.length+2) 0 (qar _) (by have:=hf.lt; omega);rw[show((0:Nat):Int)=0 from rfl]at e;rw[decide_eq_true (by omega),cond_true,zau,e,qaa];simp only[];have ht:os.take k ++ [os[k]]=os.take (k+1):=by rw[List.take_add_one,qae hk]; rfl
   rw[← zju,ht,zmP hn hm hg hl n (k+1) hk (by omega)]
  rw[decide_eq_false (by omega),cond_false,qaJ (by omega)]
theorem zqO{ms os:List Nat}(hn:ms.length≤8)(hm:∀ m∈ms,m<18446744073709551616)(hg:zcN ms os)(hl:os.length=ms.length):zc8 (iL ms)=some (iL os):=by
 have e:=zmP hn hm hg hl (ms.length+2) 0 (qar _) (by omega);rw[qbi,show((zbb []:Nat):Int)=0 from rfl,show iL []=[]from rfl]at e;unfold zc8;rw[zap,show(((0:Nat):Int))=0 from rfl,zau,e,qaa]
def zhB(ms:List Nat)(a b:Nat):Prop:=(ms.getD a 0).testBit b=true∨(ms.getD b 0).testBit a=true∨∃ u,u<ms.length∧(ms.getD u 0).testBit a=true∧(ms.getD u 0).testBit b=true
theorem zkx{ms:List Nat}{a b:Nat}(hn:ms.length≤8)(hm:∀ m∈ms,m<18446744073709551616)(ha:a<64)(hb:b<64):∀(n v:Nat) (j:Bool),v≤ms.length→ms.length - v<n →
  ∃ j':Bool,zcc (iL ms) (a:Int) (b:Int) n j (v:Int)=some j'∧(j'=true↔j=true∨∃ u,v≤u∧u<ms.length∧(ms.getD u 0).testBit a=true∧(ms.getD u 0).testBit b=true)
 | 0,_,_,_,h=>absurd h (qak _)
 | n+1,v,j,h1,h3=>by
  unfold zcc;rw[zap,zao];by_cases hv:v<ms.length
  ·have hvm:=zdb hm v;have key:∃ j1:Bool,(bif j then some true else((zaK (iL ms) (v:Int)).bind fun x16=>(zbx x16 (a:Int)).bind fun r18=>bif r18 then((zbx x16 (b:Int)).bind fun r21=>some r21)else some false):Option Bool)=some j1 ∧
     (j1=true↔j=true∨((ms.getD v 0).testBit a=true∧(ms.getD v 0).testBit b=true)):=by
    cases j with
    | true=>exact⟨true,rfl,by simp⟩
    | false=>
     rw[cond_false,zd1 hv,qaa,zl6 hvm ha,qaa];cases h6:(ms.getD v 0).testBit a with
     | false=>exact⟨false,rfl,by simp⟩
     | true=>exact⟨(ms.getD v 0).testBit b,by rw[cond_true,zl6 hvm hb,qaa],by simp⟩
   obtain⟨j1,e1,h6⟩:=key;obtain⟨j',e2,h7⟩:=zkx hn hm ha hb n (v+1) j1 hv (by omega);refine⟨j',?_,?_⟩
   ·rw[decide_eq_true hv,cond_true,e1,qaa,zal (by omega),e2]
   rw[h7,h6];constructor
   ·rintro((h | h)| ⟨u,h8,h9⟩)
    ·exact .inl h
    ·exact .inr ⟨v,qal _,hv,h⟩
    exact .inr ⟨u,by omega,h9⟩
   rintro(h | ⟨u,h8,h9,h10⟩)
   ·exact .inl (.inl h)
   by_cases huv:u=v
   ·subst huv; exact .inl (.inr h10)
   exact .inr ⟨u,by omega,h9,h10⟩
  refine⟨j,by rw[decide_eq_false hv,cond_false],?_⟩;constructor
  ·exact .inl
  rintro(h | ⟨u,h8,h9,_⟩)
  ·exact h
  exact absurd h9 (by omega)
theorem zrg{ms:List Nat}{a b:Nat}(hn:ms.length≤8)(hm:∀ m∈ms,m<18446744073709551616)(ha:a<ms.length)(hb:b<ms.length){γ:Type}(K:Bool→Option γ):
  ∃ j:Bool,(j=true↔a≠b∧zhB ms a b)∧
   (((((zaK (iL ms) (a:Int)).bind fun x5=>(zbx x5 (b:Int)).bind fun r7=>bif r7 then some true else((zaK (iL ms) (b:Int)).bind fun x10=>(zbx x10 (a:Int)).bind fun r12=>some r12)):Option Bool)).bind fun v6=>
    ((zcc (iL ms) (a:Int) (b:Int) (ms.length+2) v6 0:Option Bool)).bind fun v6'=>((bif ((a:Int)==(b:Int))then some false else some v6':Option Bool)).bind K)=K j:=by
 have key:∃ j0:Bool,((((zaK (iL ms) (a:Int)).bind fun x5=>(zbx x5 (b:Int)).bind fun r7=>bif r7 then some true else((zaK (iL ms) (b:Int)).bind fun x10=>(zbx x10 (a:Int)).bind fun r12=>some r12)):Option Bool))=some j0 ∧
   (j0=true↔(ms.getD a 0).testBit b=true∨(ms.getD b 0).testBit a=true):=by
  rw[zd1 ha,qaa,zl6 (zdb hm a) (by omega),qaa];cases h6:(ms.getD a 0).testBit b with
  | true=>exact⟨true,rfl,by simp⟩
  | false=>exact⟨(ms.getD b 0).testBit a,by rw[cond_false,zd1 hb,qaa,zl6 (zdb hm b) (by omega),qaa],by simp⟩
 obtain⟨j0,e0,h0⟩:=key;obtain⟨j1,e1,h1⟩:=zkx hn hm (a:=a) (b:=b) (by omega) (by omega) (ms.length+2) 0 j0 (qar _) (by omega);rw[show((0:Nat):Int)=0 from rfl]at e1;have hj:j1=true↔zhB ms a b:=by
  rw[h1,h0];constructor
  ·rintro((h | h)| ⟨u,_,h⟩)
   ·exact .inl h
   ·exact .inr (.inl h)
   exact .inr (.inr ⟨u,h⟩)
  rintro(h | h | ⟨u,h⟩)
  ·exact .inl (.inl h)
  ·exact .inl (.inr h)
  exact .inr ⟨u,qar _,h⟩
 by_cases hab:a=b
 ·refine⟨false,by simp[hab],?_⟩;rw[e0,qaa,e1,qaa,show((a:Int)==(b:Int))=true by rw[hab]; simp,cond_true,qaa]
 refine⟨j1,by rw[hj]; simp[hab],?_⟩;rw[e0,qaa,e1,qaa,show((a:Int)==(b:Int))=false by rw[beq_eq_false_iff_ne]; omega,cond_false,qaa]
theorem zg1{ms ds0:List Nat}{a:Nat}(hn:ms.length≤8)(hm:∀ m∈ms,m<18446744073709551616)(ha:a<ms.length):∀(n b:Nat) (ds:List Nat),ds.length=ms.length→(∀ d∈ds,d<18446744073709551616)→
  (∀ i j,i<ms.length→((ds.getD i 0).testBit j=true↔(ds0.getD i 0).testBit j=true∨(i=a∧j<b∧a≠j∧zhB ms a j)))→b≤ms.length→ms.length - b<n →
  ∃ ds',ds'.length=ms.length∧(∀ d∈ds',d<18446744073709551616)∧(∀ i j,i<ms.length→((ds'.getD i 0).testBit j=true↔(ds0.getD i 0).testBit j=true∨(i=a∧j<ms.length∧a≠j∧zhB ms a j)))∧
   zb3 (iL ms) (a:Int) n (b:Int) (iL ds)=some (iL ds')
 | 0,_,_,_,_,_,_,h=>absurd h (qak _)
 | n+1,b,ds,h1,h2,h4,h5,h3=>by
  unfold zb3;rw[zap,zao];by_cases hb:b<ms.length
  ·obtain⟨j,hj,e⟩:=zrg hn hm ha hb (fun v65:Bool=>((bif v65 then((zaK (iL ds) (a:Int)).bind fun x25=>(zhO .u64 1 (IntKind.u64.wrap (b:Int))).bind fun q27=>(zgm (iL ds) (a:Int) (orI .u64 x25 q27)).bind fun y29=>some y29)else some (iL ds):Option (List Int))).bind fun l0''=>
    zb3 (iL ms) (a:Int) n (w64 ((b:Int)+1)) l0'')
   rw[decide_eq_true hb,cond_true,zau,e];cases j with
   | true=>
    have hJ:=hj.1 rfl;have hda:=zdb h2 a;have hpw:2 ^ b<18446744073709551616:=qaW (n:=64) (by decide) (by omega);have hor:ds.getD a 0 ||| 2 ^ b<18446744073709551616:=qbd (n:=64) hda hpw
    obtain⟨ds',k1,k2,k3,k4⟩:=zg1 (ds0:=ds0) hn hm ha n (b+1) (ds.set a (ds.getD a 0 ||| 2 ^ b)) (by simpa using h1) (fun d hd=>by
     rcases qbj hd with hd | hd
     ·exact h2 d hd
     ·rw[hd]; exact hor) (fun i j hi=>by
     rw[zjr (by omega)];by_cases hia:a=i
     ·subst hia;rw[if_pos rfl,qbl,qbp,qbz,h4 a j hi,decide_eq_true_iff];constructor
      ·rintro((h | ⟨h6,h7,h8⟩)| h)
       ·exact .inl h
       ·exact .inr ⟨h6,by omega,h8⟩
       subst h; exact .inr ⟨rfl,by omega,hJ⟩
      rintro(h | ⟨h6,h7,h8⟩)
      ·exact .inl (.inl h)
      by_cases hjb:b=j
      ·exact .inr hjb
      exact .inl (.inr ⟨h6,by omega,h8⟩)
     rw[if_neg hia,h4 i j hi];constructor
     ·rintro(h | ⟨h6,_⟩)
      ·exact .inl h
      exact absurd h6.symm hia
     rintro(h | ⟨h6,_⟩)
     ·exact .inl h
     exact absurd h6.symm hia) hb (by omega)
    refine⟨ds',k1,k2,k3,?_⟩;rw[cond_true,zd1 (by omega),qaa,zqx (by omega),zn9 (by omega),qaa,orU hda hpw,zg0 (by omega),qaa,qaa,zal (by omega),k4]
   | false=>
    have hJ:¬ (a≠b∧zhB ms a b):=fun h=>by have:=hj.2 h; cases this
    obtain⟨ds',k1,k2,k3,k4⟩:=zg1 (ds0:=ds0) hn hm ha n (b+1) ds h1 h2 (fun i j hi=>by
     rw[h4 i j hi];constructor
     ·rintro(h | ⟨h6,h7,h8⟩)
      ·exact .inl h
      exact .inr ⟨h6,by omega,h8⟩
     rintro(h | ⟨h6,h7,h8⟩)
     ·exact .inl h
     by_cases hjb:b=j
     ·subst hjb; exact absurd h8 hJ
     exact .inr ⟨h6,by omega,h8⟩) hb (by omega)
    refine⟨ds',k1,k2,k3,?_⟩;rw[cond_false,qaa,zal (by omega),k4]
  refine⟨ds,h1,h2,fun i j hi=>?_,by rw[decide_eq_false hb,cond_false]⟩;rw[h4 i j hi,show b=ms.length by omega]
theorem zli{ms:List Nat}(hn:ms.length≤8)(hm:∀ m∈ms,m<18446744073709551616):∀(n a:Nat) (ds:List Nat),ds.length=ms.length→(∀ d∈ds,d<18446744073709551616)→
  (∀ i j,i<ms.length→((ds.getD i 0).testBit j=true↔i<a∧j<ms.length∧i≠j∧zhB ms i j))→a≤ms.length→ms.length - a<n →
  ∃ ds',ds'.length=ms.length∧(∀ d∈ds',d<18446744073709551616)∧(∀ i j,i<ms.length→((ds'.getD i 0).testBit j=true↔j<ms.length∧i≠j∧zhB ms i j))∧zcG (iL ms) n (a:Int) (iL ds)=some (iL ds')
 | 0,_,_,_,_,_,_,h=>absurd h (qak _)
 | n+1,a,ds,h1,h2,h4,h5,h3=>by
  unfold zcG;rw[zap,zao];by_cases ha:a<ms.length
  ·obtain⟨d1,g1,g2,g3,g4⟩:=zg1 (ds0:=ds) hn hm ha (ms.length+2) 0 ds h1 h2 (fun i j hi=>by simp) (qar _) (by omega)
   obtain⟨ds',k1,k2,k3,k4⟩:=zli hn hm n (a+1) d1 g1 g2 (fun i j hi=>by
    rw[g3 i j hi,h4 i j hi];constructor
    ·rintro(⟨h6,h7⟩| ⟨h6,h7⟩)
     ·exact⟨by omega,h7⟩
     subst h6; exact⟨by omega,h7⟩
    rintro⟨h6,h7⟩;by_cases hia:i=a
    ·subst hia; exact .inr ⟨rfl,h7⟩
    exact .inl ⟨by omega,h7⟩) ha (by omega)
   refine⟨ds',k1,k2,k3,?_⟩;rw[show((0:Nat):Int)=0 from rfl]at g4;rw[decide_eq_true ha,cond_true,zau,g4,qaa,zal (by omega),k4]
  refine⟨ds,h1,h2,fun i j hi=>?_,by rw[decide_eq_false ha,cond_false]⟩;rw[h4 i j hi];exact⟨fun h=>h.2,fun h=>⟨by omega,h⟩⟩
theorem zoG{ms ds:List Nat}(hn:ms.length≤8)(hm:∀ m∈ms,m<18446744073709551616)(he:EOk ms)(hd:MoralOk ms ds):zc3 (iL ms)=some (iL ds):=by
 obtain⟨d1,d2,d3,d4,d5⟩:=zli hn hm (ms.length+2) 0 (List.replicate ms.length 0) (by simp) (fun d hd=>by rw[(qbX.1 hd).2]; decide)
  (fun i j hi=>by simp[qbE]; split<;>simp) (qar _) (by omega)
 have hz:List.replicate ms.length (0:Int)=iL (List.replicate ms.length 0):=by simp[iL]
 rw[show((0:Nat):Int)=0 from rfl]at d5;have hdd:d1=ds:=by
  apply List.ext_getElem (by rw[d2,hd.len]);intro i h1 h2;have hi:i<ms.length:=by omega
  apply qbG;intro j;have e1:=d4 i j hi;have e2:=hd.bit i j hi;rw[show d1.getD i 0=d1[i] by simp[h1]]at e1;rw[show ds.getD i 0=ds[i] by simp[h2]]at e2;apply qcL.2;rw[e1,e2];have hf:∀ u k,(zr0 ms u).testBit k=true↔(ms.getD u 0).testBit k=true∨u=k:=fun u k=>by
   unfold zr0;rw[qbl,qbp,qbz,decide_eq_true_iff]
  constructor
  ·rintro⟨h3,h4,h5⟩;refine⟨h4,?_⟩;rcases h5 with h5 | h5 | ⟨u,h6,h7,h8⟩
   ·exact⟨i,hi,(hf _ _).2 (.inr rfl),(hf _ _).2 (.inl h5)⟩
   ·exact⟨j,h3,(hf _ _).2 (.inl h5),(hf _ _).2 (.inr rfl)⟩
   exact⟨u,h6,(hf _ _).2 (.inl h7),(hf _ _).2 (.inl h8)⟩
  rintro⟨h3,u,h4,h5,h6⟩;rcases(hf _ _).1 h5 with h5 | h5<;>rcases(hf _ _).1 h6 with h6 | h6
  ·exact⟨(he u j h6).2,h3,.inr (.inr ⟨u,h4,h5,h6⟩)⟩
  ·subst h6; exact⟨h4,h3,.inr (.inl h5)⟩
  ·subst h5; exact⟨(he u j h6).2,h3,.inl h6⟩
  exact absurd (h5.symm.trans h6) h3
 unfold zc3;rw[zap,zeV (by omega),qaa,zau,hz,d5,hdd,qaa]
theorem zgc{α:Type}{xs:List α}{k:Nat}:∃ ys:List α,zdp xs 0 (zcA (xs.length:Int) (k:Int))=some ys∧ys.length≤k∧∀ y∈ys,y∈xs:=by
 have hm:zcA (xs.length:Int) (k:Int)=((min xs.length k:Nat):Int):=by unfold zcA; split<;>omega
 refine⟨xs.take (min xs.length k),?_,by simp; omega,fun y hy=>qb2 hy⟩;rw[hm,show(0:Int)=((0:Nat):Int)from rfl];unfold zdp;rw[if_pos (by omega)];simp
theorem zr4{rs:List (List Int)}(hl:rs.length≤20):∀(n i:Nat) (acc:List (List Int)),i≤rs.length→acc.length≤i→(∀ r∈acc,r.length≤6)→rs.length - i<n →
  ∃ out,out.length≤20∧(∀ r∈out,r.length≤6)∧zdA rs n (i:Int) acc=some out
 | 0,_,_,_,_,_,h=>absurd h (qak _)
 | n+1,i,acc,h1,h2,h4,h3=>by
  unfold zdA;rw[zao];by_cases hi:i<rs.length
  ·obtain⟨y,e,hy,_⟩:=zgc (xs:=rs[i]) (k:=6);rw[show((6:Nat):Int)=6 from rfl]at e
   obtain⟨out,k1,k2,k3⟩:=zr4 hl n (i+1) (acc ++ [y]) hi (by simp; omega) (fun r hr=>by
    rcases qbg.1 hr with hr | hr
    ·exact h4 r hr
    rw[qa5.1 hr]; exact hy) (by omega)
   refine⟨out,k1,k2,?_⟩;rw[decide_eq_true hi,cond_true,zaB hi,qaa,e,qaa,zdT (by simp; omega),qaa,zal (by omega),k3]
  exact⟨acc,by omega,h4,by rw[decide_eq_false hi,cond_false]⟩
theorem zsg{xs:List S_api_Node}(hl:xs.length≤9):∀(n i:Nat) (acc:List S_api_Node),i≤xs.length→acc.length≤i→(∀ r∈acc,BndX 100 r)→xs.length - i<n →
  ∃ out,out.length≤9∧(∀ r∈out,BndX 100 r)∧zdD xs n (i:Int) acc=some out
 | 0,_,_,_,_,_,h=>absurd h (qak _)
 | n+1,i,acc,h1,h2,h4,h3=>by
  unfold zdD;rw[zao];by_cases hi:i<xs.length
  ·obtain⟨y6,e6,hy6,_⟩:=zgc (xs:=xs[i].parents) (k:=8);obtain⟨y8,e8,hy8,_⟩:=zgc (xs:=xs[i].rows) (k:=20);rw[show((8:Nat):Int)=8 from rfl]at e6;rw[show((20:Nat):Int)=20 from rfl]at e8;obtain⟨rows,r1,r2,r3⟩:=zr4 hy8 (y8.length+2) 0 [] (qar _) (qar _) (fun _ h=>nomatch h) (by omega);rw[show((0:Nat):Int)=0 from rfl]at r3
   obtain⟨out,k1,k2,k3⟩:=zsg hl n (i+1) (acc ++ [⟨xs[i].card,y6,rows⟩]) hi (by simp; omega) (fun r hr=>by
    rcases qbg.1 hr with hr | hr
    ·exact h4 r hr
    rw[qa5.1 hr]
    exact⟨by simp only; omega,by simp only; omega,fun r hr=>by have:=r2 r hr; omega⟩) (by omega)
   refine⟨out,k1,k2,?_⟩;rw[decide_eq_true hi,cond_true,zaB hi,qaa,e6,qaa,e8,qaa,zau,r3,qaa,zdT (by simp; omega),qaa,zal (by omega),k3]
  exact⟨acc,by omega,h4,by rw[decide_eq_false hi,cond_false]⟩
theorem zuh(d:S_api_Net):∃ r,ze4 d=some r∧BndK 100 r:=by
 obtain⟨y,e,hy,_⟩:=zgc (xs:=d.nodes) (k:=9);rw[show((9:Nat):Int)=9 from rfl]at e;obtain⟨out,k1,k2,k3⟩:=zsg hy (y.length+2) 0 [] (qar _) (qar _) (fun _ h=>nomatch h) (by omega);rw[show((0:Nat):Int)=0 from rfl]at k3;refine⟨⟨d.grain,out⟩,?_,⟨by simp only; omega,k2⟩⟩;unfold ze4;rw[e,qaa,zau,k3,qaa]
structure BendOk (b:S_haruspexref05_Bend):Prop where
 what:0≤b.what∧b.what≤255
 at_:0≤b.at_∧b.at_≤255
 row:0≤b.row∧b.row≤255
theorem zta{N:Nat}{raw:S_api_Net}{dr:DraftN}{b:S_haruspexref05_Bend}(hN:1025≤N)(hd:DraftOk dr)(hb:BendOk b):
  ∃ r:A3_S_api_Net,zei N raw (zcm dr) b=some r∧Bnd r.a0∧Bnd r.a1∧Bnd r.a2:=by
 obtain⟨x,e1,h1⟩:=zuh raw;obtain⟨num,ns,h,_,e2⟩:=zrA hd hN;have h2:=h.bnd;obtain⟨y,e3,h3⟩:=znK hb.what hb.at_ hb.row h2;refine⟨⟨x,zcp (1+dr.grain % 60) ns,y⟩,?_,h1.mono (by omega),h2.mono (by omega),h3.mono (by omega)⟩;unfold zei;rw[e1,qaa,e2,qaa,qaa];rw[show(⟨((1+dr.grain % 60:Nat):Int),ns.map nd⟩:S_api_Net)=zcp (1+dr.grain % 60) ns from rfl,e3,qaa]
structure Refused (N:Nat) (d:S_api_Net):Prop where
 par:zbC d=some ([],50)
 ord:zcb d=some ([],50)
 mor:zb5 d=some ([],50)
 bla:∀ v,za3 d v=some (0,50)
 anc:∀ v,zaL N d v=some (0,50)
 des:∀ v,zaC N d v=some (0,50)
theorem refused{N:Nat}{d:S_api_Net}(h:zbp d=some (zo0,50)):Refused N d:=by
 have t:((50:Int)== 0)=false:=rfl;constructor
 ·unfold zbC; rw[h,qaa]; rfl
 ·unfold zcb; rw[h,qaa]; rfl
 ·unfold zb5; rw[h,qaa]; simp only[]; rw[t,cond_false]
 ·intro v; unfold za3; rw[h,qaa]; simp only[]; rw[t,cond_false]
 ·intro v; unfold zaL; rw[h,qaa]; simp only[]; rw[t,cond_false]
 intro v; unfold zaC; rw[h,qaa]; simp only[]; rw[t,cond_false]
theorem zh4{N:Nat}{d:S_api_Net}{p3 p5:Int}(h:Refused N d):∀(n i:Nat),i≤2→2 - i<n→zaP p3 p5 d [] [] n false (i:Int)=some (.go false)
 | 0,_,_,h=>absurd h (qak _)
 | n+1,i,h1,h3=>by
  unfold zaP;by_cases hi:i<2
  ·obtain⟨x,hx⟩:∃ x,zaK [p3,(w64 (p5.tmod 5))] (i:Int)=some x:=⟨_,zaB (by simpa using hi)⟩;rw[show decide ((i:Int)<2)=true from decide_eq_true (by omega),cond_true,hx,qaa,h.bla,qaa,cond_false];simp only[];rw[show((0:Int)== 0)=true from rfl,cond_true,show((50:Int)== 50)=true from rfl,qaM,qaa,cond_false,qaa];simp only[];rw[zal (by omega),zh4 h n (i+1) (by omega) (by omega)]
  rw[show decide ((i:Int)<2)=false from decide_eq_false (by omega),cond_false]
theorem zig{N:Nat}{d:S_api_Net}{p4 q:Int}(h:Refused N d):∀(n i:Nat),i≤2→2 - i<n→zaO N p4 q d [] n false (i:Int)=some (.go ())
 | 0,_,_,h=>absurd h (qak _)
 | n+1,i,h1,h3=>by
  unfold zaO;by_cases hi:i<2
  ·obtain⟨x,hx⟩:∃ x,zaK [p4,(zgv .u64 p4 (IntKind.u64.wrap (q - 1)))] (i:Int)=some x:=⟨_,zaB (by simpa using hi)⟩;rw[show decide ((i:Int)<2)=true from decide_eq_true (by omega),cond_true,hx,qaa,h.anc,qaa,h.des,qaa,cond_false];simp only[];rw[show((0:Int)== 0)=true from rfl,cond_true,show((50:Int)== 50)=true from rfl,cond_true,cond_true,qaM,qaa,cond_false,qaa];simp only[];rw[zal (by omega),zig h n (i+1) (by omega) (by omega)]
  rw[show decide ((i:Int)<2)=false from decide_eq_false (by omega),cond_false]
theorem zjN{g:Nat}{ns:List NN}{ds:List Nat}{p3 p5:Int}(h:RightN g ns)(hM:MoralOk (zah ns) ds)(hmo:zaS ⟨zcp g ns,iL (ns.map (·.c)),iL (zah ns),[]⟩=some (iL ds)∨True)
  (hB:∀ v,v<ns.length→za3 (zcp g ns) (v:Int)=some (((ds.getD v 0:Nat):Int),0)) (hO:∀ v:Int,v<0∨(ns.length:Int)≤v→za3 (zcp g ns) v=some (0,2)):
  ∀(n i:Nat),i≤2→2 - i<n→zaP p3 p5 (zcp g ns) (iL (zah ns)) (iL ds) n true (i:Int)=some (.go true)
 | 0,_,_,h=>absurd h (qak _)
 | n+1,i,h1,h3=>by
  have hml:(zah ns).length=ns.length:=by simp[zah]
  have hdl:=hM.len;unfold zaP;by_cases hi:i<2
  ·obtain⟨x,hx⟩:∃ x,zaK [p3,(w64 (p5.tmod 5))] (i:Int)=some x:=⟨_,zaB (by simpa using hi)⟩;have ih:=zjN (p3:=p3) (p5:=p5) h hM hmo hB hO n (i+1) (by omega) (by omega);rw[show decide ((i:Int)<2)=true from decide_eq_true (by omega),cond_true,hx,qaa,zap,hml,zal (by omega)];by_cases c1:x<0
   ·rw[hO x (.inl c1),qaa,cond_true,decide_eq_true c1,cond_true,qaa,cond_true];simp only[];rw[show((0:Int)== 0)=true from rfl,cond_true,show((2:Int)== 2)=true from rfl,qaM,qaa,cond_false,qaa];exact ih
   by_cases c2:(ns.length:Int)≤x
   ·rw[hO x (.inr c2),qaa,cond_true,decide_eq_false c1,cond_false,decide_eq_true c2,qaa,cond_true];simp only[];rw[show((0:Int)== 0)=true from rfl,cond_true,show((2:Int)== 2)=true from rfl,qaM,qaa,cond_false,qaa];exact ih
   obtain⟨v,rfl⟩:∃ v:Nat,x=(v:Int):=⟨x.toNat,by omega⟩;have hv:v<ns.length:=by omega
   rw[hB v hv,qaa,cond_true,decide_eq_false c1,cond_false,decide_eq_false c2,qaa,cond_false,zd1 (by omega),qaa];simp only[];rw[beq_self_eq_true,cond_true,show((0:Int)== 0)=true from rfl,qaM,qaa,cond_false,qaa];exact ih
  rw[show decide ((i:Int)<2)=false from decide_eq_false (by omega),cond_false]
theorem ztI{t n:Nat}(h:t<2 ^ n){s:Nat}(hs:t.testBit s=true):s<n:=by
 refine Nat.lt_of_not_le fun hn=>?_
 rw[Nat.testBit_lt_two_pow (qa8 h (qa1 (by decide) hn))]at hs;cases hs
theorem RightN.eok{g:Nat}{ns:List NN}(h:RightN g ns):EOk (zah ns):=by
 have:zah ns=(ns.map (·.ps)).map zbb:=by simp[zah,qa4]
 rw[this];refine zk7 (n:=ns.length) (by simp) fun ps hps p hp=>?_
 obtain⟨x,hx,rfl⟩:=qaz.1 hps;exact h.lt x hx p hp
theorem ztg{g N t:Nat}{ns:List NN}(h:RightN g ns)(hN:10≤N)(ht:t<18446744073709551616):
  (∃ a d:Nat,zaL N (zcp g ns) (t:Int)=some ((a:Int),0)∧zaC N (zcp g ns) (t:Int)=some ((d:Int),0)∧zeu (iL (zah ns)) (t:Int)=some (a:Int)∧zdC (iL (zah ns)) (t:Int)=some (d:Int)∧
   zit .u64 (t:Int) (ns.length:Int)=some 0)∨
  (∃ q:Nat,q≠0∧zit .u64 (t:Int) (ns.length:Int)=some (q:Int)∧zaL N (zcp g ns) (t:Int)=some (0,2)∧zaC N (zcp g ns) (t:Int)=some (0,2)):=by
 have hml:(zah ns).length=ns.length:=by simp[zah]
 have hn:=h.n2;have hsh:=zv9 (a:=t) (v:=ns.length) (by omega);have hnl:(zcp g ns).nodes.length=ns.length:=by simp[zcp]
 by_cases hlt:t<2 ^ ns.length
 ·left;have hz:t >>> ns.length=0:=by rw[qbk]; exact qct hlt
  have hin:∀ s,t.testBit s=true→s<ns.length:=fun s hs=>ztI hlt hs
  obtain⟨a,a1,a2,_,a3⟩:=zuI h hN hin hlt;obtain⟨d,d1,d2,d3⟩:=zsM h hN hin hlt;obtain⟨u1,u2⟩:=zuQ (ms:=zah ns) (s:=t) (by omega) h.zcu ht;obtain⟨w1,w2⟩:=zwE (ms:=zah ns) (s:=t) (by omega) h.zcu ht;have hin':∀ s,t.testBit s=true→s<(zah ns).length:=fun s hs=>by rw[hml]; exact hin s hs
  have ea:iter (upR (zah ns)) t (zah ns).length=a:=by
   apply qbG;intro i;apply qcL.2;rw[zsE h.eok hin' i,a3]
  have ed:iter (dnR (zah ns)) t (zah ns).length=d:=by
   apply qbG;intro i;apply qcL.2;rw[zuR h.eok hin' i,d3]
  refine⟨a,d,a1,d1,by rw[u1,ea],by rw[w1,ed],by rw[hsh,hz]; rfl⟩
 right;have hne:t >>> ns.length≠0:=by
  rw[qbk];intro hz;have:=Nat.div_eq_zero_iff.1 hz;have hp:0<2 ^ ns.length:=Nat.pow_pos (by decide);omega
 obtain⟨os,_,_,e2⟩:=zg3 h;refine⟨t >>> ns.length,hne,hsh,?_,?_⟩
 ·unfold zaL;rw[e2,qaa];simp only[];rw[show((0:Int)== 0)=true from rfl,cond_true,hnl,hsh,qaa,show(((t >>> ns.length:Nat):Int)== 0)=false by rw[beq_eq_false_iff_ne]; omega,cond_false]
 unfold zaC;rw[e2,qaa];simp only[];rw[show((0:Int)== 0)=true from rfl,cond_true,hnl,hsh,qaa,show(((t >>> ns.length:Nat):Int)== 0)=false by rw[beq_eq_false_iff_ne]; omega,cond_false]
theorem zky{g N s:Nat}{ns:List NN}(h:RightN g ns)(hN:10≤N)(hs:s<18446744073709551616):∀(n i:Nat),i≤2→2 - i<n →
  zaO N (s:Int) ((2 ^ ns.length:Nat):Int) (zcp g ns) (iL (zah ns)) n true (i:Int)=some (.go ())
 | 0,_,_,h=>absurd h (qak _)
 | n+1,i,h1,h3=>by
  have hml:(zah ns).length=ns.length:=by simp[zah]
  have hn:=h.n2;unfold zaO;by_cases hi:i<2
  ·have ih:=zky h hN hs n (i+1) (by omega) (by omega);have hp1:1≤2 ^ ns.length:=Nat.pow_pos (by decide);have hp2:2 ^ ns.length≤2 ^ 8:=qa1 (by decide) hn;have hw:IntKind.u64.wrap (((2 ^ ns.length:Nat):Int) - 1)=((2 ^ ns.length - 1:Nat):Int):=by
    rw[show(((2 ^ ns.length:Nat):Int) - 1)=((2 ^ ns.length - 1:Nat):Int) by omega,zet (by omega)]
   obtain⟨t,ht,hx⟩:∃ t:Nat,t<18446744073709551616∧zaK [(s:Int),(zgv .u64 (s:Int) (IntKind.u64.wrap (((2 ^ ns.length:Nat):Int) - 1)))] (i:Int)=some (t:Int):=by
    rw[hw,zwo hs (by omega)];have:i=0∨i=1:=by omega
    rcases this with rfl | rfl
    ·exact⟨s,hs,rfl⟩
    exact⟨_,Nat.and_lt_two_pow (n:=64) s (show 2 ^ ns.length - 1<2 ^ 64 by omega),rfl⟩
   rw[show decide ((i:Int)<2)=true from decide_eq_true (by omega),cond_true,hx,qaa,zal (by omega)];rcases ztg h hN ht with⟨a,d,e1,e2,e3,e4,e5⟩| ⟨q,hq,e5,e1,e2⟩
   ·rw[e1,qaa,e2,qaa,cond_true,zap,hml,e5,qaa,show((0:Int)== 0)=true from rfl,cond_true,e3,qaa];simp only[];simp only[beq_self_eq_true,cond_true,e4,qaa,qaM,cond_false];exact ih
   rw[e1,qaa,e2,qaa,cond_true,zap,hml,e5,qaa,show((q:Int)== 0)=false by rw[beq_eq_false_iff_ne]; omega,cond_false];simp only[];rw[show((0:Int)== 0)=true from rfl,cond_true,show((2:Int)== 2)=true from rfl,cond_true,cond_true,qaM,qaa,cond_false,qaa];exact ih
  rw[show decide ((i:Int)<2)=false from decide_eq_false (by omega),cond_false]
def zxf(x:NN):RN:=⟨x.c,x.ps,x.rows.map iL⟩
theorem zto(g:Nat)(ns:List NN):zcp g ns=⟨(g:Int),(ns.map zxf).map rd⟩:=by
 unfold zcp;rw[qcM];rfl
theorem RightN.zwM{g:Nat}{ns:List NN}(h:RightN g ns):za6 (zcp g ns)=some (iL (zah ns)):=by
 have hn:=h.n2;rw[zto,zmV (by simpa using hn) fun x hx=>?_]
 ·simp[zcY,zah,zxf,qa4]
 obtain⟨y,hy,rfl⟩:=qaz.1 hx;exact⟨h.zwZ hy,fun p hp=>by have:=h.lt y hy p hp; omega⟩
theorem znI{N s:Nat}{d:S_api_Net}{p3 p5:Int}(hN:10≤N)(hb:Bnd d)(hs:s<18446744073709551616)(K:Option (Out Unit Bool)):
  ((zbC d).bind fun r9=>(zcb d).bind fun r11=>(zb5 d).bind fun r13=>(zcv d).bind fun r15=>
((bif r15 then(
(za6 d).bind fun r24=>
(zc3 r24).bind fun r26=>
((bif (r9.2 == 0)then(
(zcK r9.1 r24).bind fun r29=>
bif r29 then(
bif (r11.2 == 0)then(
(zc8 r24).bind fun r33=>
(zdG r11.1 r33).bind fun r35=>
bif r35 then(
bif (r13.2 == 0)then(
(zcK r13.1 r26).bind fun r39=>
some (!r39))
else(
some true))
else(
some true))
else(
some true))
else(
some true))
else(
some true):Option Bool)).bind fun v119=>
bif v119 then(
some (.ret false))
else(
some (.go (true,r24,r26))))
else(
((bif ((r9.1.length:Int)== 0)then(
bif (r9.2 == 50)then(
bif ((r11.1.length:Int)== 0)then(
bif (r11.2 == 50)then(
bif ((r13.1.length:Int)== 0)then(
some (!(r13.2 == 50)))
else(
some true))
else(
some true))
else(
some true))
else(
some true))
else(
some true):Option Bool)).bind fun v86=>
bif v86 then(
some (.ret false))
else(
some (.go (false,[],[])))):Option (Out (Bool×(List Int)×(List Int)) Bool))).bind fun o=>match o with
| .go (v21,v22,v23)=>(
((zaP p3 p5 d v22 v23 (2 - 0+2:Int).toNat v21 0:Option (Out Bool Bool))).bind fun o=>match o with
| .go v21'=>(
(zhO .u64 1 (v22.length:Int)).bind fun q58=>
((zaO N (s:Int) q58 d v22 (2 - 0+2:Int).toNat v21' 0:Option (Out Unit Bool))).bind fun o=>match o with
| .go _=>K
| .ret r=>some (.ret r))
| .ret r=>some (.ret r))
| .ret r=>some (.ret r))=K:=by
 have t0:((0:Int)== 0)=true:=rfl;have t5:((50:Int)== 50)=true:=rfl;have f4:(2 - 0+2:Int).toNat=4:=rfl;rcases zpa hb with⟨⟨g,ns,rfl,h⟩,hr⟩| ⟨hno,hr⟩
 ·obtain⟨os,g1,g2,e2⟩:=zg3 h;obtain⟨ds,k1,k2,k3⟩:=zq4 h;have hml:(zah ns).length=ns.length:=by simp[zah]
  have hn:=h.n2;have hdl:=k1.len;have hO:∀ v:Int,v<0∨(ns.length:Int)≤v→za3 (zcp g ns) v=some (0,2):=by
   intro v hv;unfold za3;rw[e2,qaa];simp only[];rw[t0,cond_true,show(zcp g ns).nodes.length=ns.length by simp[zcp]];by_cases c1:v<0
   ·rw[decide_eq_true c1,cond_true,qaa,cond_true]
   rw[decide_eq_false c1,cond_false,show decide (((ns.length:Nat):Int)≤v)=true from decide_eq_true (by omega),qaa,cond_true]
  have hP:zbC (zcp g ns)=some (iL (zah ns),0):=by unfold zbC; rw[e2,qaa]
  have hOr:zcb (zcp g ns)=some (iL os,0):=by unfold zcb; rw[e2,qaa]
  have hl2:=zjN (p3:=p3) (p5:=p5) h k1 (.inr trivial) k3 hO 4 0 (by omega) (by omega);have hl3:=zky (N:=N) h hN hs 4 0 (by omega) (by omega);rw[show((0:Nat):Int)=0 from rfl]at hl2 hl3
  simp only[hP,hOr,k2,hr,qaa,cond_true,h.zwM,zoG (by omega) h.zcu h.eok k1,t0,zo9 (show(iL (zah ns)).length≤1000 by rw[zap]; omega),zqO (by omega) h.zcu g1 (by omega),
   zsS (show(iL os).length≤1000 by rw[zap]; omega),zo9 (show(iL ds).length≤1000 by rw[zap]; omega),qaM,cond_false,f4,hl2,zap,hml,zn9 (show ns.length<64 by omega),hl3]
 rcases ztn hb with e | ⟨g,ns,rfl,h⟩
 ·have hf:=refused (N:=N) e;have hl2:=zh4 (p3:=p3) (p5:=p5) hf 4 0 (by omega) (by omega);have hl3:=fun q=>zig (p4:=(s:Int)) (q:=q) hf 4 0 (by omega) (by omega)
  rw[show((0:Nat):Int)=0 from rfl]at hl2 hl3;have hsl:=zn9 (v:=0) (by omega);rw[show((0:Nat):Int)=0 from rfl]at hsl;simp only[hf.par,hf.ord,hf.mor,hr,qaa,cond_false,qaR,Int.ofNat_zero,Int.natCast_zero,t0,t5,cond_true,qaM,f4,hl2,hsl,hl3]
 exact absurd ⟨g,ns,rfl,h⟩ hno
theorem zkN{N s:Nat}{r4:A3_S_api_Net}{p3 p5:Int}(hN:10≤N)(h0:Bnd r4.a0)(h1:Bnd r4.a1)(h2:Bnd r4.a2)(hs:s<18446744073709551616):∀(n i:Nat),i≤3→3 - i<n →
  zbA N r4 p3 p5 (s:Int) n (i:Int)=some (.go ())
 | 0,_,_,h=>absurd h (qak _)
 | n+1,i,h4,h3=>by
  unfold zbA;by_cases hi:i<3
  ·obtain⟨d,hd,hx⟩:∃ d,Bnd d∧zaK [r4.a0,r4.a1,r4.a2] (i:Int)=some d:=by
    have:i=0∨i=1∨i=2:=by omega
    rcases this with rfl | rfl | rfl
    ·exact⟨_,h0,rfl⟩
    ·exact⟨_,h1,rfl⟩
    exact⟨_,h2,rfl⟩
   have ih:=zkN (p3:=p3) (p5:=p5) hN h0 h1 h2 hs n (i+1) (by omega) (by omega);rw[show decide ((i:Int)<3)=true from decide_eq_true (by omega),cond_true,hx,qaa,zal (by omega),ih];exact znI hN hd hs (some (.go ()))
  rw[show decide ((i:Int)<3)=false from decide_eq_false (by omega),cond_false]
theorem graphs_holds{raw:S_api_Net}{dr:DraftN}{b:S_haruspexref05_Bend}{v k:Int}{s:Nat}(hd:DraftOk dr)(hb:BendOk b)(hs:s<18446744073709551616):zcQ 1025 raw (zcm dr) b v (s:Int) k=some true:=by
 obtain⟨r,e,h0,h1,h2⟩:=zta (N:=1025) (raw:=raw) (qal _) hd hb;have e1:=zkN (p3:=v) (p5:=k) (N:=1025) (by decide) h0 h1 h2 hs 5 0 (by omega) (by omega);rw[show((0:Nat):Int)=0 from rfl]at e1;unfold zcQ zly;rw[qaa,cond_true,e,qaa,show(3 - 0+2:Int).toNat=5 from rfl,e1,qaa]
end Go.Dc
