/-
 Plain laws: what a reading of any net finds: parents, rows. Conditions: none.
-/
import Derived.Test.YtcfdkhbflhdjeaaNcJ7
import Derived.Test.YtcfdkhbflhdjeaaNcJ6
set_option linter.unusedSimpArgs false
set_option linter.unusedVariables false
namespace Go.Dc
open Go Go.Mx Go.Lx
def zl2:S_net_network:=⟨⟨0,[]⟩,[],[],[]⟩
def PsV(m v:Int):Int→List Int→Prop
 | _,[]=>True
 | lo,p :: r=>lo<p∧p<m∧p≠v∧PsV m v p r
def zjU(m:Int):Int→List Int→Prop
 | _,[]=>True
 | lo,p :: r=>lo<p∧p<m∧zjU m p r
theorem PsV.iff{m v:Int}:∀ {ps:List Int} {lo:Int},PsV m v lo ps↔zjU m lo ps∧∀ p∈ps,p≠v
 | [],lo=>by simp[PsV,zjU]
 | p :: r,lo=>by
  simp only[PsV,zjU,PsV.iff (ps:=r) (lo:=p),qaH,forall_eq_or_imp];exact⟨fun⟨a,b,c,d,e⟩=>⟨⟨a,b,d⟩,c,e⟩,fun⟨⟨a,b,d⟩,c,e⟩=>⟨a,b,c,d,e⟩⟩
theorem zjU.zuY{m:Nat}:∀ {ps:List Int} {lo:Int},-1≤lo→zjU m lo ps→∃ qs:List Nat,ps=iL qs∧qs.Pairwise (· < ·)∧(∀ q∈qs,lo<(q:Int))∧∀ q∈qs,q<m
 | [],lo,_,_=>⟨[],rfl,List.Pairwise.nil,by simp,by simp⟩
 | p :: r,lo,hl,h=>by
  obtain⟨h1,h2,h3⟩:=h;obtain⟨qs,e,g1,g2,g3⟩:=h3.zuY (by omega);refine⟨p.toNat :: qs,?_,qb2.2 ⟨fun q hq=>?_,g1⟩,fun q hq=>?_,fun q hq=>?_⟩
  ·rw[e]; simp only[iL,qaD]; congr 1; omega
  ·have:=g2 q hq; omega
  ·rcases qaH.1 hq with rfl | hq
   ·omega
   have:=g2 q hq; omega
  rcases qaH.1 hq with rfl | hq
  ·omega
  exact g3 q hq
theorem zjU.of{m:Nat}:∀ {qs:List Nat} {lo:Int},qs.Pairwise (· < ·)→(∀ q∈qs,lo<(q:Int))→(∀ q∈qs,q<m)→zjU m lo (iL qs)
 | [],lo,_,_,_=>trivial
 | q :: r,lo,h,h1,h2=>by
  obtain⟨h3,h4⟩:=qb2.1 h;show lo<(q:Int)∧(q:Int)<(m:Int)∧zjU m (q:Int) (iL r);refine⟨h1 q qas,by have:=h2 q qas; omega,zjU.of h4 (fun p hp=>by have:=h3 p hp; omega) fun p hp=>h2 p (qar _ hp)⟩
theorem znf{v:Nat}{ns:S_api_Net}{x:S_api_Node}{xs ys:List Nat}(hn:ns.nodes.length≤8)(hv:xs.length=v)(hpl:x.parents.length≤1000):∀(n i m:Nat) (lo:Int),-1≤lo→i≤x.parents.length→m<18446744073709551616→x.parents.length - i<n →
  (PsV ns.nodes.length v lo (x.parents.drop i)∧∃ qs:List Nat,x.parents.drop i=iL qs∧zbF x ns (v:Int) n lo (i:Int) (iL (xs ++ m :: ys))=some (.go (iL (xs ++ (qs.foldl (fun m p=>m ||| 2 ^ p) m):: ys))))∨
  (¬ PsV ns.nodes.length v lo (x.parents.drop i)∧zbF x ns (v:Int) n lo (i:Int) (iL (xs ++ m :: ys))=some (.ret (zl2,50)))
 | 0,_,_,_,_,_,_,h=>absurd h (qam _)
 | n+1,i,m,lo,hlo,h1,h2,h3=>by
  unfold zbF;by_cases hi:i<x.parents.length
  ·have hd:x.parents.drop i=x.parents[i]:: x.parents.drop (i+1):=qaq hi;obtain⟨p,hp⟩:∃ p,x.parents[i]=p:=⟨_,rfl⟩;rw[zar,decide_eq_true hi,cond_true,zaJ hi,qaa,hd,hp];by_cases c1:p≤lo
   ·refine .inr ⟨fun h=>by have:=h.1; omega,?_⟩;rw[decide_eq_true c1,cond_true,qaa,cond_true]; rfl
   by_cases c2:(ns.nodes.length:Int)≤p
   ·refine .inr ⟨fun h=>by have:=h.2.1; omega,?_⟩;rw[decide_eq_false c1,cond_false,decide_eq_true c2,cond_true,qaa,cond_true]; rfl
   by_cases c3:p=(v:Int)
   ·refine .inr ⟨fun h=>h.2.2.1 c3,?_⟩;rw[decide_eq_false c1,cond_false,decide_eq_false c2,cond_false,qaa,show(p ==(v:Int))=true by simp[c3],cond_true]; rfl
   obtain⟨q,rfl⟩:∃ q:Nat,p=(q:Int):=⟨p.toNat,by omega⟩;have hpw:2 ^ q<18446744073709551616:=qbG (n:=64) (by decide) (by omega);have hm:m ||| 2 ^ q<18446744073709551616:=qbW (n:=64) h2 hpw;rw[decide_eq_false c1,cond_false,decide_eq_false c2,cond_false,qaa,show((q:Int)==(v:Int))=false by rw[beq_eq_false_iff_ne]; exact c3,cond_false,← hv,zcW,qaa,zvZ (by omega),qaa,orU h2 hpw,zff,qaa,zaq (by omega),hv];rcases znf (v:=v) (ns:=ns) (x:=x) (xs:=xs) (ys:=ys) hn hv hpl n (i+1) (m ||| 2 ^ q) (q:Int) (by omega) hi hm (by omega)with⟨g1,qs,g2,g3⟩| ⟨g1,g2⟩
   ·exact .inl ⟨⟨by omega,by omega,c3,g1⟩,q :: qs,by rw[g2]; rfl,by rw[g3]; rfl⟩
   exact .inr ⟨fun h=>g1 h.2.2.2,g2⟩
  rw[zar,decide_eq_false hi,cond_false,qaF (by omega)];exact .inl ⟨qcG,[],rfl,rfl⟩
theorem zmu{ps:List Int}{m:Int}(hpl:ps.length≤1000):∀(n i:Nat) (lo:Int),-1≤lo→(i=0→lo = -1)→(∀ h:i - 1<ps.length,i≠0→lo=ps[i - 1])→i≤ps.length→ps.length - i<n →
  (zjU m lo (ps.drop i)∧zba ps m n (i:Int)=some (.go ()))∨(¬ zjU m lo (ps.drop i)∧zba ps m n (i:Int)=some (.ret false))
 | 0,_,_,_,_,_,_,h=>absurd h (qam _)
 | n+1,i,lo,hlo,h0,hp,h1,h3=>by
  unfold zba;by_cases hi:i<ps.length
  ·have hd:ps.drop i=ps[i]:: ps.drop (i+1):=qaq hi;obtain⟨p,hpp⟩:∃ p,ps[i]=p:=⟨_,rfl⟩;rw[zar,decide_eq_true hi,cond_true,zaJ hi,qaa,hd,hpp];by_cases c1:p<0
   ·refine .inr ⟨fun h=>by have:=h.1; omega,?_⟩;rw[decide_eq_true c1,cond_true,qaa,cond_true]
   by_cases c2:m≤p
   ·refine .inr ⟨fun h=>by have:=h.2.1; omega,?_⟩;rw[decide_eq_false c1,cond_false,decide_eq_true c2,cond_true,qaa,cond_true]
   rw[decide_eq_false c1,cond_false,decide_eq_false c2,cond_false];have hrec:lo<p→(zjU m lo (p :: ps.drop (i+1))∧zba ps m n (w64 ((i:Int)+1))=some (.go ()))∨(¬ zjU m lo (p :: ps.drop (i+1))∧zba ps m n (w64 ((i:Int)+1))=some (.ret false)):=by
    intro hlp;rw[zaq (by omega)];rcases zmu hpl n (i+1) p (by omega) (fun h=>by omega) (fun h _=>by simp only[Nat.add_sub_cancel]; exact hpp.symm) hi (by omega)with⟨g1,g2⟩| ⟨g1,g2⟩
    ·exact .inl ⟨⟨hlp,by omega,g1⟩,g2⟩
    exact .inr ⟨fun h=>g1 h.2.2,g2⟩
   by_cases c3:i=0
   ·have c4:¬ ((0:Int)<(i:Int)):=by omega
    rw[decide_eq_false c4,cond_false,qaa,cond_false];exact hrec (by have:=h0 c3; omega)
   have hi1:i - 1<ps.length:=by omega
   have hlo':=hp hi1 c3;have c4:(0:Int)<(i:Int):=by omega
   rw[decide_eq_true c4,cond_true,show w64 ((i:Int) - 1)=((i - 1:Nat):Int) by rw[zm6 (by omega) (by omega)]; omega,zaJ hi1,qaa,qaa,← hlo'];by_cases c5:p≤lo
   ·rw[decide_eq_true c5,cond_true];exact .inr ⟨fun h=>by have:=h.1; omega,rfl⟩
   rw[decide_eq_false c5,cond_false];exact hrec (by omega)
  rw[zar,decide_eq_false hi,cond_false,qaF (by omega)];exact .inl ⟨qcG,rfl⟩
theorem zqp{ps:List Int}{m:Int}(hpl:ps.length≤1000):∃ b,zc3 ps m=some b∧(b=true↔zjU m (-1) ps):=by
 unfold zc3;rw[zaF];rcases zmu (m:=m) hpl (ps.length+2) 0 (-1) (by omega) (fun _=>rfl) (fun _ h=>absurd rfl h) (qav _) (by omega)with⟨g1,g2⟩| ⟨g1,g2⟩
 ·rw[show((0:Nat):Int)=0 from rfl]at g2;rw[g2,qaa];exact⟨true,rfl,fun _=>g1,fun _=>rfl⟩
 rw[show((0:Nat):Int)=0 from rfl]at g2;rw[g2,qaa];exact⟨false,rfl,fun h=>by(cases h),fun h=>absurd h g1⟩
theorem zjS{a b:List Nat}(h:iL a=iL b):a=b:=by
 have:=congrArg (List.map Int.toNat) h;simpa [iL,qa4]using this
def zn7(g c:Nat)(r:List Int):Prop:=∃ zs:List Nat,r=iL zs∧zs.length=c∧zs.sum=g
theorem ziu{y:Int×List Int}(hl:y.2.length≤1000):∀(n i r:Nat),i≤y.2.length→r≤65536→y.2.length - i<n →
  (∃ zs:List Nat,y.2.drop i=iL zs∧zs.sum≤r∧zav y n (r:Int) (i:Int)=some (.go ((r - zs.sum:Nat):Int)))∨
  ((¬ ∃ zs:List Nat,y.2.drop i=iL zs∧zs.sum≤r)∧zav y n (r:Int) (i:Int)=some (.ret false))
 | 0,_,_,_,_,h=>absurd h (qam _)
 | n+1,i,r,h1,hr,h3=>by
  unfold zav;by_cases hi:i<y.2.length
  ·have hd:y.2.drop i=y.2[i]:: y.2.drop (i+1):=qaq hi;obtain⟨p,hpp⟩:∃ p,y.2[i]=p:=⟨_,rfl⟩;rw[zar,decide_eq_true hi,cond_true,zaJ hi,qaa,hd,hpp];by_cases c1:p<0
   ·refine .inr ⟨fun⟨zs,e,_⟩=>?_,by rw[decide_eq_true c1,cond_true,qaa,cond_true]⟩;cases zs with
    | nil=>cases e
    | cons z zs=>simp only[iL,qaD,qbX]at e; omega
   by_cases c2:(r:Int)<p
   ·refine .inr ⟨fun⟨zs,e,hs⟩=>?_,by rw[decide_eq_false c1,cond_false,qaa,decide_eq_true c2,cond_true]⟩;cases zs with
    | nil=>cases e
    | cons z zs=>simp only[iL,qaD,qbX]at e; rw[qbA]at hs; omega
   obtain⟨q,rfl⟩:∃ q:Nat,p=(q:Int):=⟨p.toNat,by omega⟩;rw[decide_eq_false c1,cond_false,qaa,decide_eq_false c2,cond_false,show((r:Int) - (q:Int))=((r - q:Nat):Int) by omega,zaT (by omega),zaq (by omega)];rcases ziu hl n (i+1) (r - q) hi (by omega) (by omega)with⟨zs,e,hs,g⟩| ⟨g1,g2⟩
   ·refine .inl ⟨q :: zs,by rw[e]; rfl,by rw[qbA]; omega,by rw[g,qbA,Nat.sub_sub]⟩
   refine .inr ⟨fun⟨zs,e,hs⟩=>g1 ?_,g2⟩;cases zs with
   | nil=>cases e
   | cons z zs=>
    simp only[iL,qaD,qbX]at e;rw[qbA]at hs;exact⟨zs,e.2,by omega⟩
  rw[zar,decide_eq_false hi,cond_false,qaF (by omega)];exact .inl ⟨[],rfl,qav _,by simp⟩
theorem ziw{g c:Nat}{nw:S_net_network}{x:S_api_Node}(hg:nw.net.grain=(g:Int))(hg2:g≤60)(hc:x.card=(c:Int)):∀(L:List (Int×List Int)),(∀ y∈L,y.2.length≤1000)→
  ((∀ y∈L,zn7 g c y.2)∧zau nw x L=some (.go ()))∨((¬ ∀ y∈L,zn7 g c y.2)∧zau nw x L=some (.ret false))
 | [],_=>.inl ⟨fun _ h=>(nomatch h),rfl⟩
 | y :: L,h=>by
  unfold zau;have hy:=h y qas;rw[hg,zaF];rcases ziu hy (y.2.length+2) 0 g (qav _) (by omega) (by omega)with⟨zs,e,hs,e3⟩| ⟨e1,e3⟩
  ·rw[show((0:Nat):Int)=0 from rfl]at e3;rw[qa7]at e;rw[e3,qaa];simp only[];rw[hc,e,zaw];by_cases c1:zs.length=c
   ·rw[show(((zs.length:Nat):Int)==(c:Int))=true by simp[c1],cond_true,qaa];by_cases c2:zs.sum=g
    ·rw[c2,qbP,show(!(((0:Nat):Int)== 0))=false from rfl,cond_false];rcases ziw hg hg2 hc L fun y hy=>h y (qar _ hy)with⟨g1,g2⟩| ⟨g1,g2⟩
     ·refine .inl ⟨fun z hz=>?_,g2⟩;rcases qaH.1 hz with rfl | hz
      ·exact⟨zs,e,c1,c2⟩
      exact g1 z hz
     exact .inr ⟨fun hh=>g1 fun z hz=>hh z (qar _ hz),g2⟩
    rw[show(!(((g - zs.sum:Nat):Int)== 0))=true by simp; omega,cond_true];refine .inr ⟨fun hh=>?_,rfl⟩;obtain⟨zs',e',_,h7⟩:=hh y qas;rw[e]at e';have:zs=zs':=zjS e';exact c2 (by rw[this,h7])
   rw[show(((zs.length:Nat):Int)==(c:Int))=false by simp; omega,cond_false,qaa,cond_true];refine .inr ⟨fun hh=>?_,rfl⟩;obtain⟨zs',e',h6,_⟩:=hh y qas;rw[e]at e';have:=congrArg List.length e';rw[zaw,zaw]at this;omega
  rw[show((0:Nat):Int)=0 from rfl]at e3;rw[qa7]at e1;rw[e3,qaa];refine .inr ⟨fun hh=>e1 ?_,rfl⟩;obtain⟨zs,e,h6,h7⟩:=hh y qas;exact⟨zs,e,by omega⟩
theorem ze8(cs:List Nat)(c:Nat):zaB (cs ++ [c])=zaB cs * c:=by
 induction cs with
 | nil=>simp[zaB]
 | cons x xs ih=>show x * zaB (xs ++ [c])=x * zaB xs * c; rw[ih,qca]
theorem zjy{cs:List Nat}(h:∀ c∈cs,1≤c∧c≤4)(hl:cs.length≤8):zaB cs≤65536:=
 qax (zf3 (m:=4) (by omega) fun x hx=>(h x hx).2) (qax (qbj (by decide) hl) (by decide))
theorem znl{d:S_api_Net}(hn:d.nodes.length≤8):∀(n:Nat) (xs ys:List S_api_Node) (cs:List Nat),xs ++ ys=d.nodes→xs.map (·.card)=iL cs→(∀ c∈cs,1≤c∧c≤4)→ys.length<n →
  zbg d n ((zaB cs:Nat):Int) (xs.length:Int) (iL (cs ++ List.replicate ys.length 0))=some (.ret (zl2,50))∨
  ∃ cs':List Nat,d.nodes.map (·.card)=iL cs'∧(∀ c∈cs',1≤c∧c≤4)∧zbg d n ((zaB cs:Nat):Int) (xs.length:Int) (iL (cs ++ List.replicate ys.length 0))=some (.go (((zaB cs':Nat):Int),iL cs'))
 | 0,_,_,_,_,_,_,h=>absurd h (qam _)
 | n+1,xs,[],cs,h1,h2,h4,h3=>by
  unfold zbg;rw[qaP]at h1;subst h1;rw[zar,decide_eq_false (by omega),cond_false];exact .inr ⟨cs,h2,h4,by simp⟩
 | n+1,xs,y :: ys,cs,h1,h2,h4,h3=>by
  unfold zbg;have hxl:cs.length=xs.length:=by have:=congrArg List.length h2; simpa [zaw]using this.symm
  have hxn:xs.length<d.nodes.length:=by rw[← h1]; simp
  have hy:d.nodes[xs.length]=y:=by simp[← h1]
  rw[zar,decide_eq_true hxn,cond_true,zaJ hxn,qaa,hy];by_cases c1:y.card<1
  ·rw[decide_eq_true c1,cond_true,qaa,cond_true];exact .inl rfl
  by_cases c2:4<y.card
  ·rw[decide_eq_false c1,cond_false,decide_eq_true c2,qaa,cond_true];exact .inl rfl
  obtain⟨c,hc⟩:∃ c:Nat,y.card=(c:Int):=⟨y.card.toNat,by omega⟩;have h4':∀ z∈cs ++ [c],1≤z∧z≤4:=fun z hz=>by
   rcases qbc.1 hz with hz | hz
   ·exact h4 z hz
   rw[qaZ.1 hz]; omega
  have hb:zaB (cs ++ [c])≤65536:=zjy h4' (by simp; omega);have ih:=znl hn n (xs ++ [y]) ys (cs ++ [c]) (by rw[← h1]; simp) (by rw[qbw,h2]; simp[iL,hc]) h4' (by simp at h3; omega);have hcx:((xs.length:Nat):Int)=((cs.length:Nat):Int):=by rw[hxl]
  rw[decide_eq_false c1,cond_false,decide_eq_false c2,qaa,cond_false,qaL,qa3,hcx,zcW,qaa,hc,zff,qaa,← qbg,← ze8,zaT (by omega),zaq (by omega)];rw[show(xs ++ [y]).length=cs.length+1 by simp[hxl],show cs ++ [c]++ List.replicate ys.length 0=cs ++ c :: List.replicate ys.length 0 by simp]at ih;exact ih
theorem zhJ{p:List Nat→Prop}:∀ {rows:List (List Int)},(∀ r∈rows,∃ zs:List Nat,r=iL zs∧p zs)→∃ zss:List (List Nat),rows=zss.map iL∧∀ zs∈zss,p zs
 | [],_=>⟨[],rfl,fun _ h=>nomatch h⟩
 | r :: rows,h=>by
  obtain⟨zs,e,h1⟩:=h r qas;obtain⟨zss,e2,h2⟩:=zhJ (rows:=rows) fun r hr=>h r (qar _ hr)
  refine⟨zs :: zss,by rw[e,e2]; rfl,fun z hz=>?_⟩;rcases qaH.1 hz with rfl | hz
  ·exact h1
  exact h2 z hz
theorem zrb{g c:Nat}{cs ps:List Nat}{nodes:List S_api_Node}{sets order:List Int}{x:S_api_Node}(hg2:g≤60)(hc:x.card=(c:Int))(hps:x.parents=iL ps)(hp:Pl cs.length ps)(hl:ps.length≤8)(hcs:∀ p∈ps,1≤cs.getD p 0)
  (hm:zaB (ps.map fun p=>cs.getD p 0)≤65536) (hrl:x.rows.length≤1000) (hrr:∀ r∈x.rows,r.length≤1000):
  zaI ⟨⟨(g:Int),nodes⟩,iL cs,sets,order⟩ x=some false∨zaI ⟨⟨(g:Int),nodes⟩,iL cs,sets,order⟩ x=some true∧∃ rows,x.rows=rows.map iL∧RowsOk g c (zaB (ps.map fun p=>cs.getD p 0)) rows:=by
 unfold zaI;have e:=zhP (x:=x) (nodes:=⟨(g:Int),nodes⟩) (sets:=sets) (order:=order) hps hp hl hcs (ps.length+2) 0 1 (qav _) (by simpa using hm) (by omega);rw[show((0:Nat):Int)=0 from rfl,show((1:Nat):Int)=1 from rfl,qa7,qck]at e;rw[hps,zaw,zaF,e,qaa];by_cases c1:x.rows.length=zaB (ps.map fun p=>cs.getD p 0)
 ·rw[show(((x.rows.length:Nat):Int)==((zaB (ps.map fun p=>cs.getD p 0):Nat):Int))=true by rw[c1]; simp,cond_true];unfold zfb;rw[qaa];have hs:zgC x.rows=some ():=by
   unfold zgC;rw[if_pos (by omega)]
  rw[hs,qaa];have hz:∀ y:Int×List Int,y∈zpY x.rows→y.2∈x.rows:=by
   intro y hy;unfold zpY at hy;obtain⟨q,hq,rfl⟩:=qay.1 hy;have:=List.mem_zipIdx' hq;rw[this.2]; exact qao _
  rcases ziw (g:=g) (c:=c) (nw:=⟨⟨(g:Int),nodes⟩,iL cs,sets,order⟩) (x:=x) rfl hg2 hc (zpY x.rows) (fun y hy=>hrr _ (hz y hy))with⟨g1,g2⟩| ⟨g1,g2⟩
  ·rw[g2,qaa];refine .inr ⟨rfl,?_⟩;obtain⟨rows,e1,e2⟩:=zhJ (p:=fun zs=>zs.length=c∧zs.sum=g) (rows:=x.rows) fun r hr=>by
    obtain⟨i,hi,rfl⟩:=qbH.1 hr;obtain⟨zs,h1,h2,h3⟩:=g1 ((i:Int),x.rows[i]) (qay.2 ⟨(x.rows[i],i),List.mk_mem_zipIdx_iff_getElem?.2 (qae hi),rfl⟩);exact⟨zs,h1,h2,h3⟩
   exact⟨rows,e1,by rw[← c1,e1,qaB],e2⟩
  rw[g2,qaa];exact .inl rfl
 rw[show(((x.rows.length:Nat):Int)==((zaB (ps.map fun p=>cs.getD p 0):Nat):Int))=false by rw[beq_eq_false_iff_ne]; omega,cond_false];exact .inl rfl
structure NdOk (g:Nat) (cs:List Nat) (z:NN):Prop where
 inc:z.ps.Pairwise (· < ·)
 lt:∀ p∈z.ps,p<cs.length
 rows:RowsOk g z.c (zaB (z.ps.map fun p=>cs.getD p 0)) z.rows
theorem PsV.zuY{m v:Nat}{ps:List Int}(h:PsV m v (-1) ps):∃ qs:List Nat,ps=iL qs∧qs.Pairwise (· < ·)∧(∀ q∈qs,q<m)∧∀ q∈qs,q≠v:=by
 obtain⟨h1,h2⟩:=PsV.iff.1 h;obtain⟨qs,e,g1,_,g3⟩:=h1.zuY (by omega);refine⟨qs,e,g1,g3,fun q hq he=>?_⟩;exact h2 (q:Int) (by rw[e]; exact qay.2 ⟨q,hq,rfl⟩) (by rw[he])
structure BndX (k:Nat) (x:S_api_Node):Prop where
 par:x.parents.length≤k
 rows:x.rows.length≤k
 row:∀ r∈x.rows,r.length≤k
structure BndK (k:Nat) (d:S_api_Net):Prop where
 nodes:d.nodes.length≤k
 node:∀ x∈d.nodes,BndX k x
theorem BndX.mono{k m:Nat}{x:S_api_Node}(h:BndX k x)(hk:k≤m):BndX m x:=⟨qax h.par hk,qax h.rows hk,fun r hr=>qax (h.row r hr) hk⟩
theorem BndK.mono{k m:Nat}{d:S_api_Net}(h:BndK k d)(hk:k≤m):BndK m d:=⟨qax h.nodes hk,fun x hx=>(h.node x hx).mono hk⟩
abbrev Bnd(d:S_api_Net):Prop:=BndK 1000 d
theorem zmL{g:Nat}{cs:List Nat}{d:S_api_Net}(hg:d.grain=(g:Int))(hg2:g≤60)(hb:Bnd d)(hn:d.nodes.length≤8)(hcs:d.nodes.map (·.card)=iL cs)(hc:∀ c∈cs,1≤c∧c≤4):∀(n:Nat) (zs:List NN) (ys:List S_api_Node),zs.map nd ++ ys=d.nodes →
  (∀ z∈zs,NdOk g cs z)→ys.length<n →
  zbf d (iL cs) n (zs.length:Int) (iL (zs.map (fun x=>za9 x.ps)++ List.replicate ys.length 0))=some (.ret (zl2,50))∨
  ∃ ns:List NN,d.nodes=ns.map nd∧(∀ z∈ns,NdOk g cs z)∧zbf d (iL cs) n (zs.length:Int) (iL (zs.map (fun x=>za9 x.ps)++ List.replicate ys.length 0))=some (.go (iL (zax ns)))
 | 0,_,_,_,_,h=>absurd h (qam _)
 | n+1,zs,[],h1,h2,h3=>by
  unfold zbf;rw[qaP]at h1;rw[← h1,qaB,zar,decide_eq_false (by omega),cond_false];exact .inr ⟨zs,rfl,h2,by simp[zax]⟩
 | n+1,zs,y :: ys,h1,h2,h3=>by
  unfold zbf;have hxn:zs.length<d.nodes.length:=by rw[← h1]; simp
  have hy:d.nodes[zs.length]=y:=by simp[← h1]
  have hym:y∈d.nodes:=by rw[← h1]; simp
  have hcl:cs.length=d.nodes.length:=by have:=congrArg List.length hcs; simpa [zaw]using this.symm
  have hyc:y.card=((cs[zs.length]'(by omega):Nat):Int):=by
   have:(d.nodes.map (·.card))[zs.length]'(by simpa using hxn)=(iL cs)[zs.length]'(by rw[zaw]; omega):=by simp only[hcs]
   rw[List.getElem_map,hy,zsH (by omega)]at this;exact this
  obtain⟨c,hcc⟩:∃ c,cs[zs.length]'(by omega)=c:=⟨_,rfl⟩;rw[hcc]at hyc;rw[zar,decide_eq_true hxn,cond_true,zaJ hxn,qaa,hy,qaL,qa3,zaF];have e3:=znf (v:=zs.length) (ns:=d) (x:=y) (xs:=zs.map fun x=>za9 x.ps) (ys:=List.replicate ys.length 0) hn (by simp) (hb.node y hym).par (y.parents.length+2) 0 0 (-1) (by omega) (qav _) (by decide) (by omega);rw[show((0:Nat):Int)=0 from rfl,qa7]at e3;rcases e3 with⟨g1,qs,g2,g3⟩| ⟨g1,g2⟩
  ·rw[g3,qaa];simp only[];rw[show(qs.foldl (fun m p=>m ||| 2 ^ p) 0)=za9 qs from rfl];obtain⟨qs',e,k1,k2,k3⟩:=g1.zuY;have:qs'=qs:=zjS (by rw[← e,← g2]);subst this;have hps:∀ p∈qs',p<cs.length:=fun p hp=>by rw[hcl]; exact k2 p hp
   have hq4:∀ p∈qs',1≤cs.getD p 0∧cs.getD p 0≤4:=fun p hp=>by
    have h6:=hps p hp;rw[show cs.getD p 0=cs[p] by simp[h6]];exact hc _ (qao h6)
   have hql:qs'.length≤8:=by have:=ziY k1 k2; omega
   obtain⟨G,ds⟩:=d;simp only at hg hn hcs hb hxn hy hym hcl h1 ⊢;subst hg;rcases zrb (g:=g) (c:=c) (cs:=cs) (ps:=qs') (nodes:=ds) (sets:=iL (zs.map (fun x=>za9 x.ps)++ za9 qs' :: List.replicate ys.length 0)) (order:=[]) (x:=y) hg2 hyc g2 hps hql (fun p hp=>(hq4 p hp).1)
    (zjy (fun z hz=>by obtain⟨p,hp,rfl⟩:=qay.1 hz; exact hq4 p hp) (by simpa using hql)) (hb.node y hym).rows (hb.node y hym).row with e4 | ⟨e4,rows,r1,r2⟩
   ·rw[e4,qaa,cond_false];exact .inl rfl
   have hnd:nd ⟨c,qs',rows⟩=y:=by
    cases y;simp only at hyc g2 r1;simp only[nd,hyc,g2,r1]
   have ih:=zmL (d:=⟨(g:Int),ds⟩) rfl hg2 hb hn hcs hc n (zs ++ [⟨c,qs',rows⟩]) ys (by rw[← h1,qbw,← hnd]; simp) (fun z hz=>by
    rcases qbc.1 hz with hz | hz
    ·exact h2 z hz
    rw[qaZ.1 hz]; exact⟨k1,hps,r2⟩) (by simp at h3; omega)
   rw[e4,qaa,cond_true,zaq (by omega)];rw[show(zs ++ [(⟨c,qs',rows⟩:NN)]).length=zs.length+1 by simp,show(zs ++ [(⟨c,qs',rows⟩:NN)]).map (fun x=>za9 x.ps)++ List.replicate ys.length 0=zs.map (fun x=>za9 x.ps)++ za9 qs' :: List.replicate ys.length 0 by simp]at ih;exact ih
  rw[g2,qaa];exact .inl rfl
theorem ziC{ms os:List Nat}{mask C:Nat}(hn:ms.length≤8)(hm:∀ m∈ms,m<18446744073709551616)(hk:mask<18446744073709551616)(hC:os.length+1≤C):∀(n i:Nat),i≤ms.length→(∀ u,u<i→¬ zgk ms mask u)→ms.length - i<n →
  ((∀ u,u<ms.length→¬ zgk ms mask u)∧za1 (iL ms) (mask:Int) C n (i:Int) (iL os)=some (.go ()))∨
  ∃ v,First ms mask v∧za1 (iL ms) (mask:Int) C n (i:Int) (iL os)=some (.brk (((mask ||| 2 ^ v:Nat):Int),iL (os ++ [v])))
 | 0,_,_,_,h=>absurd h (qam _)
 | n+1,i,h1,h2,h3=>by
  by_cases hi:i<ms.length
  ·obtain⟨b,hb,e,_⟩:=zkD hm hk hi (by omega) (iL os);cases b with
   | true=>
    have hf:First ms mask i:=⟨hi,hb.1 rfl,h2⟩;exact .inr ⟨i,hf,zhE hn hm hk hC hf (n+1) i (qak _) (by omega)⟩
   | false=>
    have hno:¬ zgk ms mask i:=fun h=>by have:=hb.2 h; cases this
    have ih:=ziC hn hm hk hC n (i+1) hi (fun u hu=>by
     by_cases hui:u=i
     ·rw[hui]; exact hno
     exact h2 u (by omega)) (by omega)
    unfold za1;rw[zaw,zar,decide_eq_true hi,cond_true,zbS hi,qaa,e,qaa];simp only[];rw[cond_false,zaq (by omega)];exact ih
  refine .inl ⟨fun u hu=>h2 u (by omega),?_⟩;unfold za1;rw[zaw,zar,decide_eq_false hi,cond_false]
theorem ziH{ms:List Nat}(hn:ms.length≤8)(hm:∀ m∈ms,m<18446744073709551616):∀(n:Nat) (os:List Nat),zcN ms os→os.length≤ms.length→ms.length - os.length<n →
  zbb (iL ms) ms.length n ((za9 os:Nat):Int) (iL os)=some (.ret ([],false))∨
  ∃ os',zcN ms os'∧os'.length=ms.length∧zbb (iL ms) ms.length n ((za9 os:Nat):Int) (iL os)=some (.go (iL os'))
 | 0,_,_,_,h=>absurd h (qam _)
 | n+1,os,h1,h2,h3=>by
  unfold zbb;rw[zaw,zaw,zar];by_cases hl:os.length<ms.length
  ·have hk:za9 os<18446744073709551616:=Go.Dc.ze2 fun x hx=>by
    have:=h1.lt x hx;omega
   rw[decide_eq_true hl,cond_true,zaF];rcases ziC (os:=os) (C:=ms.length) hn hm hk (by omega) (ms.length+2) 0 (qav _) (fun u hu=>absurd hu (qam _)) (by omega)with⟨g1,g2⟩| ⟨v,g1,g2⟩
   ·rw[show((0:Nat):Int)=0 from rfl]at g2;rw[g2,qaa];exact .inl rfl
   rw[show((0:Nat):Int)=0 from rfl]at g2;rw[g2,qaa];simp only[];rw[← znc];exact ziH hn hm n (os ++ [v]) (h1.app g1) (by simp; omega) (by simp; omega)
  exact .inr ⟨os,h1,by omega,by rw[decide_eq_false hl,cond_false]⟩
theorem zry{ms:List Nat}(hn:ms.length≤8)(hm:∀ m∈ms,m<18446744073709551616):
  zbE (iL ms)=some ([],false)∨∃ os,zcN ms os∧os.length=ms.length∧zbE (iL ms)=some (iL os,true):=by
 unfold zbE;rw[zaw];have hcap:zso 8 ((ms.length:Nat):Int)=some ms.length:=by
  unfold zso;rw[if_pos ⟨qbm _,by simp only[zad]; omega⟩,qaO]
 rw[hcap,qaa,show(((ms.length:Nat):Int) - ((([]:List Int).length:Nat):Int)+2).toNat=ms.length+2 by simp; omega];have e:=ziH hn hm (ms.length+2) [] (fun k v hk=>by simp at hk) (qav _) (by simp);rw[show((za9 []:Nat):Int)=0 from rfl,show iL []=[]from rfl]at e;rcases e with e | ⟨os,g1,g2,e⟩
 ·rw[e,qaa]; exact .inl rfl
 rw[e,qaa]; exact .inr ⟨os,g1,g2,rfl⟩
theorem zs7{d:S_api_Net}(hb:Bnd d):zaN d=some (zl2,50)∨∃ g ns,d=zdI g ns∧RightN g ns:=by
 unfold zaN;by_cases c1:d.grain<1
 ·rw[decide_eq_true c1,cond_true,qaa,cond_true]; exact .inl rfl
 by_cases c2:60<d.grain
 ·rw[decide_eq_false c1,cond_false,decide_eq_true c2,cond_true,qaa,cond_true]; exact .inl rfl
 by_cases c3:(d.nodes.length:Int)<1
 ·rw[decide_eq_false c1,cond_false,decide_eq_false c2,cond_false,decide_eq_true c3,cond_true,qaa,cond_true]; exact .inl rfl
 by_cases c4:8<(d.nodes.length:Int)
 ·rw[decide_eq_false c1,cond_false,decide_eq_false c2,cond_false,decide_eq_false c3,cond_false,decide_eq_true c4,qaa,cond_true]; exact .inl rfl
 rw[decide_eq_false c1,cond_false,decide_eq_false c2,cond_false,decide_eq_false c3,cond_false,decide_eq_false c4,qaa,cond_false];have hn:d.nodes.length≤8:=by omega
 have hz:List.replicate d.nodes.length (0:Int)=iL (List.replicate d.nodes.length 0):=by simp[iL]
 rw[zhv (by omega),qaa,qaa,zaF,hz];have e1:=znl hn (d.nodes.length+2) [] d.nodes [] rfl rfl (fun _ h=>nomatch h) (by omega);simp only[qbe,qaQ]at e1;rw[show((0:Nat):Int)=0 from rfl,show((zaB []:Nat):Int)=1 from rfl]at e1;rcases e1 with e1 | ⟨cs,h1,h2,e1⟩
 ·rw[e1,qaa]; exact .inl rfl
 rw[e1,qaa];simp only[];by_cases c5:(1024:Int)<((zaB cs:Nat):Int)
 ·rw[decide_eq_true c5,cond_true]; exact .inl rfl
 rw[decide_eq_false c5,cond_false];obtain⟨g,hg⟩:∃ g:Nat,d.grain=(g:Int):=⟨d.grain.toNat,by omega⟩;have e2:=zmL hg (by omega) hb hn h1 h2 (d.nodes.length+2) [] d.nodes rfl (fun _ h=>nomatch h) (by omega);simp only[qby,qbe,qaQ]at e2;rw[show((0:Nat):Int)=0 from rfl]at e2;rcases e2 with e2 | ⟨ns,h3,h4,e2⟩
 ·rw[e2,qaa]; exact .inl rfl
 rw[e2,qaa];simp only[];have hnl:ns.length=d.nodes.length:=by rw[h3,qaB]
 have hcs:ns.map (·.c)=cs:=by
  apply zjS;rw[← h1,h3];simp[iL,nd,qa4]
 have hml:(zax ns).length=ns.length:=by simp[zax]
 have hlt:∀ x∈ns,∀ p∈x.ps,p<ns.length:=fun x hx p hp=>by
  have:=(h4 x hx).lt p hp;rw[← hcs,qaB]at this;exact this
 have hmm:∀ m∈zax ns,m<18446744073709551616:=by
  intro m hm;obtain⟨x,hx,rfl⟩:=qay.1 hm;refine Go.Dc.ze2 fun p hp=>?_
  have:=hlt x hx p hp;omega
 rcases zry (ms:=zax ns) (by omega) hmm with e3 | ⟨os,k1,k2,e3⟩
 ·rw[e3,qaa]; simp only[]; rw[cond_false]; exact .inl rfl
 refine .inr ⟨g,ns,?_,?_⟩
 ·obtain⟨G,ds⟩:=d;simp only at hg h3;rw[hg,h3]; rfl
 refine⟨by omega,by omega,by omega,by omega,fun x hx=>h2 _ (by rw[← hcs]; exact qay.2 ⟨x,hx,rfl⟩),by rw[hcs]; omega,fun x hx=>(h4 x hx).inc,hlt,fun x hx=>by rw[hcs]; exact(h4 x hx).rows,?_⟩;refine⟨fun v=>os.idxOf v,fun v=>?_,fun v x hv p hp=>?_⟩
 ·have:=List.idxOf_le_length (a:=v) (l:=os); simp only; omega
 have hvl:=(qac.1 hv).1;refine k1.zwG k2 v p (by omega) ?_;rw[show(zax ns).getD v 0=za9 x.ps by simp[zax,qbM,hv],zcG];exact decide_eq_true hp
theorem BndX.fit{x:S_api_Node}(h:BndX 1000 x):FitN x:=⟨by have:=h.par; simp only[zad]; omega,by have:=h.rows; simp only[zad]; omega,fun r hr=>by have:=h.row r hr; simp only[zad]; omega⟩
theorem BndK.set{k t:Nat}{g:Int}{d:S_api_Net}{y:S_api_Node}(h:BndK k d)(hy:BndX k y):BndK k ⟨g,d.nodes.set t y⟩:=
 ⟨by simpa using h.nodes,fun x hx=>by
  rcases qbR hx with hx | hx
  ·exact h.node x hx
  rw[hx]; exact hy⟩
theorem ztP{n:Nat}:∀ {r:List Int} (i k:Nat) (hi:k+1≤r.length) (h3:k+1 - i<n) (hl:r.length≤1000),i≤k+1→∃ r2,swL n (i:Int) (k:Int) r=some r2∧r2.length=r.length:=by
 induction n with
 | zero=>intro r i k hi h3; exact absurd h3 (qam _)
 | succ n ih=>
  intro r i k hi h3 hl h4;unfold swL;rw[zar];by_cases hik:i<k
  ·rw[decide_eq_true hik,cond_true,zaJ (by omega),qaa,zaJ (by omega),qaa,zgU (by omega),qaa,zgU (by simp; omega),qaa,zaq (by omega),
    show w64 ((k:Int) - 1)=((k - 1:Nat):Int) by rw[zm6 (by omega) (by omega)]; omega]
   obtain⟨r2,e,h5⟩:=ih (r:=(r.set i (r[k]'(by omega))).set k (r[i]'(by omega))) (i+1) (k - 1) (by simp; omega) (by omega) (by simpa using hl) (by omega);exact⟨r2,e,by simpa using h5⟩
  rw[decide_eq_false hik,cond_false];exact⟨r,rfl,rfl⟩
theorem zt8{r:List Int}(hl:r.length≤1000):∃ r2,swL (r.length+2) 0 (w64 ((r.length:Int) - 1)) r=some r2∧r2.length=r.length:=by
 by_cases h0:r.length=0
 ·have:r=[]:=qat h0;subst this;exact⟨[],rfl,rfl⟩
 rw[show w64 ((r.length:Int) - 1)=((r.length - 1:Nat):Int) by rw[zm6 (by omega) (by omega)]; omega];exact ztP (n:=r.length+2) 0 (r.length - 1) (by omega) (by omega) hl (by omega)
theorem zdN{K:Nat}{b:S_haruspexref05_Bend}{n:S_api_Net}{x:S_api_Node}{t:Nat}(hb:BndK K n)(hx:BndX K x):∀ k,(k≤4∨k=10∨k=11)→∃ r,zrE b n x t k=some r∧BndK (K+1) r:=by
 have hb':=hb.mono (m:=K+1) (by omega);have hx':=hx.mono (m:=K+1) (by omega);rintro k (hk | rfl | rfl)
 ·match k,hk with
  | 0,_=>exact⟨_,rfl,⟨hb'.nodes,hb'.node⟩⟩
  | 1,_=>exact⟨_,rfl,hb'.set ⟨hx'.par,hx'.rows,hx'.row⟩⟩
  | 2,_=>exact⟨_,rfl,hb'.set ⟨by have:=hx.par; simp; omega,hx'.rows,hx'.row⟩⟩
  | 3,_=>exact⟨_,rfl,hb'.set ⟨by simp,hx'.rows,hx'.row⟩⟩
  | 4,_=>exact⟨_,rfl,hb'.set ⟨hx'.par,by have:=hx.rows; simp; omega,fun r hr=>by
    rcases qbc.1 hr with hr | hr
    ·exact hx'.row r hr
    rw[qaZ.1 hr]; simp⟩⟩
 ·refine⟨_,rfl,⟨by have:=hb.nodes; simp; omega,fun y hy=>?_⟩⟩;rcases qbc.1 hy with hy | hy
  ·exact hb'.node y hy
  rw[qaZ.1 hy];exact⟨by simp,by simp,fun r hr=>by rw[qaZ.1 hr]; simp⟩
 exact⟨_,rfl,⟨by have:=hb'.nodes; simp; omega,fun y hy=>hb'.node y (qce hy)⟩⟩
theorem BndX.zvP{K:Nat}{w:Nat}{c:Int}{x:S_api_Node}{y:List Int}(hx:BndX (K+1) x)(hy:y.length≤K+1):BndX (K+1) ⟨c,x.parents,x.rows.set w y⟩:=
 ⟨hx.par,by simpa using hx.rows,fun r hr=>by
  rcases qbR hr with hr | hr
  ·exact hx.row r hr
  rw[hr]; exact hy⟩
theorem zrB{K:Nat}{b:S_haruspexref05_Bend}{n:S_api_Net}{x:S_api_Node}{t w:Nat}{row:List Int}(hb:BndK K n)(hx:BndX K x)(hr:row.length≤K)(hK:K≤200):∀ k,k<12→∃ r,zow b n x t w row k=some r∧BndK (K+1) r:=by
 have hb':=hb.mono (m:=K+1) (by omega);have hx':=hx.mono (m:=K+1) (by omega);intro k hk
 match k,hk with
 | 0,_=>exact zdN (b:=b) (t:=t) hb hx 0 (by omega)
 | 1,_=>exact zdN (b:=b) (t:=t) hb hx 1 (by omega)
 | 2,_=>exact zdN (b:=b) (t:=t) hb hx 2 (by omega)
 | 3,_=>exact zdN (b:=b) (t:=t) hb hx 3 (by omega)
 | 4,_=>exact zdN (b:=b) (t:=t) hb hx 4 (by omega)
 | 5,_=>exact⟨_,rfl,hb'.set ⟨hx'.par,by have:=hx.rows; simp; omega,fun r hr=>hx'.row r (qce hr)⟩⟩
 | 6,_=>
  refine⟨_,rfl,?_⟩;cases row.isEmpty with
  | true=>exact hb'
  | false=>exact hb'.set (hx'.zvP (by simp; omega))
 | 7,_=>exact⟨_,rfl,hb'.set (hx'.zvP (by simp; omega))⟩
 | 8,_=>
  refine⟨_,rfl,?_⟩;cases row.isEmpty with
  | true=>exact hb'
  | false=>exact hb'.set (hx'.zvP (by simp; omega))
 | 9,_=>
  obtain⟨r2,e,h2⟩:=zt8 (r:=row) (by omega);refine⟨⟨n.grain,n.nodes.set t ⟨x.card,x.parents,x.rows.set w r2⟩⟩,?_,hb'.set (hx'.zvP (by omega))⟩;show((swL (row.length+2) 0 (w64 ((row.length:Int) - 1)) row).map fun r2=>(⟨n.grain,n.nodes.set t ⟨x.card,x.parents,x.rows.set w r2⟩⟩:S_api_Net))=_;rw[e]; rfl
 | 10,_=>exact zdN (b:=b) (t:=t) hb hx 10 (by omega)
 | 11,_=>exact zdN (b:=b) (t:=t) hb hx 11 (by omega)
theorem ziD{K:Nat}{b:S_haruspexref05_Bend}{n:S_api_Net}(h1:0≤b.what∧b.what≤255)(h2:0≤b.at_∧b.at_≤255)(h3:0≤b.row∧b.row≤255)(hb:BndK K n)(hK:K≤200:=by omega):∃ r,ziz b n=some r∧BndK (K+1) r:=by
 unfold ziz;rw[if_pos ⟨h1,h2,h3,by have:=hb.nodes; simp only[zad]; omega,fun x hx=>((hb.node x hx).mono (by omega)).fit⟩];have hk:=qbV b.what.toNat (show 12 > 0 by decide);generalize b.what.toNat % 12=k at hk ⊢;unfold zsX;split
 ·exact⟨_,rfl,hb.mono (by omega)⟩
 rename_i x hx;have hxm:=hb.node x (qaE hx);split
 ·cases hc:decide (5≤k) && decide (k≤9)with
  | true=>exact⟨_,rfl,hb.mono (by omega)⟩
  | false=>
   rw[cond_false];refine zdN hb hxm k ?_;simp at hc;omega
 rename_i row hrow;exact zrB hb hxm (hxm.row row (qaE hrow)) hK k hk
theorem NetOk.bnd{num:List Nat}{g:Nat}{ns:List NN}(h:NetOk num g ns):BndK 100 (zdI g ns):=by
 refine⟨by have:=h.n2; simp[zdI]; omega,fun y hy=>?_⟩;obtain⟨x,hx,rfl⟩:=qay.1 hy;obtain⟨v,hv,rfl⟩:=qbH.1 hx;obtain⟨j,hj,hjv⟩:=qbH.1 (h.perm.all v hv);have hn:=h.node j v ns[v] (by rw[qae hj,hjv]) (qae hv);have h3:=hn.par.len;have hc:=h.card ns[v] hx;have hm:zaB (ns[v].ps.map fun p=>(ns.map (·.c)).getD p 0)≤64:=by
  refine qax (zf3 (m:=4) (by omega) fun z hz=>?_) ?_
  ·obtain⟨p,hp,rfl⟩:=qay.1 hz;by_cases hpl:p<ns.length
   ·have:=h.card ns[p] (qao hpl);simpa [hpl]using this.2
   simp[qbM,show ns[p]? = none from qa5 (by omega)]
  rw[qaB];exact qax (qbj (by decide) h3) (by decide)
 refine⟨by simp[nd,zaw]; omega,by show(ns[v].rows.map iL).length≤100; rw[qaB,hn.rows.len]; omega,fun r hr=>?_⟩;obtain⟨zs,hz,rfl⟩:=qay.1 (show r∈ns[v].rows.map iL from hr);rw[zaw,(hn.rows.row zs hz).1]; omega
def upS(ms:List Nat)(s v:Nat):Nat:=if s.testBit v then s ||| ms.getD v 0 else s
def upR(ms:List Nat)(s:Nat):Nat:=(List.range ms.length).foldl (upS ms) s
def EOk(ms:List Nat):Prop:=∀ v p,(ms.getD v 0).testBit p=true→v<ms.length∧p<ms.length
theorem Sub.zw0{a:Nat}:Sub a a:=fun _ h=>h
theorem Sub.tr{a b c:Nat}(h1:Sub a b)(h2:Sub b c):Sub a c:=fun i h=>h2 i (h1 i h)
theorem Sub.zwV{a b:Nat}(h1:Sub a b)(h2:Sub b a):a=b:=by
 apply qcB;intro i;exact Bool.eq_iff_iff.2 ⟨h1 i,h2 i⟩
theorem zou(ms:List Nat)(s v:Nat):Sub s (upS ms s v):=by
 intro i hi;unfold upS;split
 ·rw[qcu,hi,Bool.true_or]
 exact hi
theorem zi3{f:Nat→Nat→Nat}(h:∀ s v,Sub s (f s v)):∀(vs:List Nat) (s:Nat),Sub s (vs.foldl f s)
 | [],s=>Sub.zw0
 | v :: vs,s=>(h s v).tr (zi3 h vs (f s v))
theorem zmD{f:Nat→Nat→Nat}(h:∀ s v,Sub s (f s v)):∀(vs:List Nat) (s:Nat),vs.foldl f s=s→∀ v∈vs,f s v=s
 | [],_,_,_,hv=>nomatch hv
 | v :: vs,s,he,u,hu=>by
  rw[qbT]at he;have h1:f s v=s:=Sub.zwV (by have:=zi3 h vs (f s v); rw[he]at this; exact this) (h s v);rw[h1]at he;rcases qaH.1 hu with rfl | hu
  ·exact h1
  exact zmD h vs s he u hu
theorem zjl{f:Nat→Nat→Nat}{P:Nat→Prop}(h:∀ s v,P s→P (f s v)):∀(vs:List Nat) (s:Nat),P s→P (vs.foldl f s)
 | [],_,h0=>h0
 | v :: vs,s,h0=>zjl h vs _ (h s v h0)
theorem zjw{f:Nat→Nat}{P:Nat→Prop}(h:∀ s,P s→P (f s))(s:Nat)(h0:P s):∀ k,P (iter f s k)
 | 0=>h0
 | k+1=>h _ (zjw h s h0 k)
theorem zmA{f:Nat→Nat}(h:∀ s,Sub s (f s))(s:Nat):∀ k,Sub s (iter f s k)
 | 0=>Sub.zw0
 | k+1=>(zmA h s k).tr (h _)
theorem zvF{ms:List Nat}(he:EOk ms){s:Nat}(hs:∀ x,s.testBit x=true→x<ms.length)(i:Nat):(iter (upR ms) s ms.length).testBit i=true↔∃ v,s.testBit v=true∧Reach ms v i:=by
 have hsub:∀ s,Sub s (upR ms s):=fun s=>zi3 (zou ms) _ s
 have hin:∀ s,(∀ x,s.testBit x=true→x<ms.length)→∀ x,(upR ms s).testBit x=true→x<ms.length:=fun s h=>zjl (P:=fun s=>∀ x,s.testBit x=true→x<ms.length) (fun s v h x hx=>by
  unfold upS at hx;split at hx
  ·rw[qcu]at hx;rcases Bool.or_eq_true_iff.1 hx with hx | hx
   ·exact h x hx
   exact(he v x hx).2
  exact h x hx) _ s h
 have hfix:upR ms (iter (upR ms) s ms.length)=iter (upR ms) s ms.length:=by
  rcases zgA (n:=ms.length) (upR ms) hsub hin ms.length s hs with h | h
  ·exact h
  refine Sub.zwV (fun x hx=>?_) (hsub _);exact ztF h x (hin _ (zjw (P:=fun s=>∀ x,s.testBit x=true→x<ms.length) hin s hs _) x hx)
 have hclo:∀ v,(iter (upR ms) s ms.length).testBit v=true→Sub (ms.getD v 0) (iter (upR ms) s ms.length):=by
  intro v hv p hp;have h1:=zmD (zou ms) _ _ hfix v (qbp.2 (he v p hp).1);unfold upS at h1;rw[if_pos hv]at h1;rw[← h1,qcu,hp,Bool.or_true]
 constructor
 ·intro hi;refine zjw (f:=upR ms) (P:=fun t=>∀ i,t.testBit i=true→∃ v,s.testBit v=true∧Reach ms v i) (fun t ht=>?_) s (fun i hi=>⟨i,hi,.refl i⟩) ms.length i hi;refine zjl (P:=fun t=>∀ i,t.testBit i=true→∃ v,s.testBit v=true∧Reach ms v i) (fun t v ht i hi=>?_) _ t ht;unfold upS at hi;split at hi
  ·rename_i hv;rw[qcu]at hi;rcases Bool.or_eq_true_iff.1 hi with hi | hi
   ·exact ht i hi
   obtain⟨u,h1,h2⟩:=ht v hv;exact⟨u,h1,h2.tr (.step hi (.refl i))⟩
  exact ht i hi
 rintro⟨v,h1,h2⟩;exact zrP h2 (zmA hsub s _ v h1) hclo
theorem zvc{v:Nat}(h:v<64):IntKind.u64.wrap (v:Int)=(v:Int):=zfi (by omega)
theorem zvk{a v:Nat}(ha:a<18446744073709551616)(hv:v<64):zfg (a:Int) (v:Int)=some (a.testBit v):=by
 obtain⟨q,h1,h2⟩:=zw7 ha hv;unfold zfg;rw[zvc hv,h1,qaa,h2];cases a.testBit v<;>rfl
theorem zu9{ms:List Nat}(hm:∀ m∈ms,m<18446744073709551616){s v:Nat}(hs:s<18446744073709551616):upS ms s v<18446744073709551616:=by
 unfold upS;split
 ·exact qbW (n:=64) hs (zlu hm v)
 exact hs
theorem zu7{ms:List Nat}(hn:ms.length≤60)(hm:∀ m∈ms,m<18446744073709551616):∀(k n v s:Nat),v+k=ms.length→s<18446744073709551616→k<n →
  zdG (iL ms) n (s:Int) (v:Int)=some (((List.range' v k).foldl (upS ms) s:Nat):Int)∧(List.range' v k).foldl (upS ms) s<18446744073709551616
 | k,0,_,_,_,_,h=>absurd h (qam _)
 | 0,n+1,v,s,h1,hs,_=>by
  refine⟨?_,hs⟩;unfold zdG;rw[zaw,zar,decide_eq_false (by omega),cond_false];rfl
 | k+1,n+1,v,s,h1,hs,h3=>by
  have hv:v<ms.length:=by omega
  obtain⟨g1,g2⟩:=zu7 hn hm k n (v+1) (upS ms s v) (by omega) (zu9 hm hs) (by omega);refine⟨?_,g2⟩;unfold zdG;rw[zaw,zar,decide_eq_true hv,cond_true,zvk hs (by omega),qaa,zaq (by omega),List.range'_succ,qbT];cases hb:s.testBit v with
  | true=>
   rw[cond_true,zsq hv,qaa,orU hs (zlu hm v),qaa,← g1];unfold upS;rw[if_pos hb]
  | false=>
   rw[cond_false,qaa,← g1];unfold upS;rw[if_neg (by rw[hb]; decide)]
theorem znR(f:Nat→Nat)(s k:Nat):iter f s (k+1)=iter f (f s) k:=by
 induction k with
 | zero=>rfl
 | succ k ih=>show f (iter f s (k+1))=f (iter f (f s) k); rw[ih]
theorem zt9{ms:List Nat}(hn:ms.length≤60)(hm:∀ m∈ms,m<18446744073709551616):∀(k n v s:Nat),v+k=ms.length→s<18446744073709551616→k<n →
  zdB (iL ms) n (s:Int) (v:Int)=some ((iter (upR ms) s k:Nat):Int)∧iter (upR ms) s k<18446744073709551616
 | k,0,_,_,_,_,h=>absurd h (qam _)
 | 0,n+1,v,s,h1,hs,_=>by
  refine⟨?_,hs⟩;unfold zdB;rw[zaw,zar,decide_eq_false (by omega),cond_false];rfl
 | k+1,n+1,v,s,h1,hs,h3=>by
  have hv:v<ms.length:=by omega
  obtain⟨e1,e2⟩:=zu7 hn hm ms.length (ms.length+2) 0 s (by omega) hs (by omega);rw[← List.range_eq_range']at e1 e2;obtain⟨g1,g2⟩:=zt9 hn hm k n (v+1) (upR ms s) (by omega) e2 (by omega);rw[znR];refine⟨?_,g2⟩;unfold zdB;rw[show((0:Nat):Int)=0 from rfl]at e1;rw[zaw,zar,decide_eq_true hv,cond_true,zaF,e1,qaa,zaq (by omega)];exact g1
theorem zwg{ms:List Nat}{s:Nat}(hn:ms.length≤60)(hm:∀ m∈ms,m<18446744073709551616)(hs:s<18446744073709551616):
  zgf (iL ms) (s:Int)=some ((iter (upR ms) s ms.length:Nat):Int)∧iter (upR ms) s ms.length<18446744073709551616:=by
 obtain⟨e1,e2⟩:=zt9 hn hm ms.length (ms.length+2) 0 s (by omega) hs (by omega);refine⟨?_,e2⟩;rw[show((0:Nat):Int)=0 from rfl]at e1;unfold zgf;rw[zaw,zaF,e1,qaa]
def zl6(ms:List Nat)(v:Nat):Prop:=∀ p,(ms.getD v 0).testBit p=true→¬ Reach ms p v
theorem zuh{ms:List Nat}(hn:ms.length≤60)(hm:∀ m∈ms,m<18446744073709551616)(he:EOk ms):∀(n v:Nat),v≤ms.length→ms.length - v<n →
  ((∀ u,v≤u→u<ms.length→zl6 ms u)∧zbr (iL ms) n (v:Int)=some (.go ()))∨((∃ u,u<ms.length∧¬ zl6 ms u)∧zbr (iL ms) n (v:Int)=some (.ret false))
 | 0,_,_,h=>absurd h (qam _)
 | n+1,v,h1,h3=>by
  unfold zbr;rw[zaw,zar];by_cases hv:v<ms.length
  ·obtain⟨e1,e2⟩:=zwg hn hm (zlu hm v);have hb:=zvF he (s:=ms.getD v 0) (fun x hx=>(he v x hx).2) v;rw[decide_eq_true hv,cond_true,zsq hv,qaa,e1,qaa,zvk e2 (by omega),qaa];cases hc:(iter (upR ms) (ms.getD v 0) ms.length).testBit v with
   | true=>
    obtain⟨p,h6,h7⟩:=hb.1 hc;exact .inr ⟨⟨v,hv,fun h=>h p h6 h7⟩,rfl⟩
   | false=>
    have hno:zl6 ms v:=fun p h6 h7=>by
     have:=hb.2 ⟨p,h6,h7⟩;rw[hc]at this;cases this
    rw[cond_false,zaq (by omega)];rcases zuh hn hm he n (v+1) hv (by omega)with⟨g1,g2⟩| ⟨g1,g2⟩
    ·refine .inl ⟨fun u hu hul=>?_,g2⟩;by_cases huv:u=v
     ·rw[huv]; exact hno
     exact g1 u (by omega) hul
    exact .inr ⟨g1,g2⟩
  rw[decide_eq_false hv,cond_false];exact .inl ⟨fun u h6 h7=>absurd h7 (by omega),rfl⟩
theorem zuv{ms:List Nat}(hn:ms.length≤60)(hm:∀ m∈ms,m<18446744073709551616)(he:EOk ms):
  ((∀ u,u<ms.length→zl6 ms u)∧zcc (iL ms)=some true)∨((∃ u,u<ms.length∧¬ zl6 ms u)∧zcc (iL ms)=some false):=by
 unfold zcc;rw[zaw,zaF];rcases zuh hn hm he (ms.length+2) 0 (qav _) (by omega)with⟨g1,g2⟩| ⟨g1,g2⟩
 ·rw[show((0:Nat):Int)=0 from rfl]at g2;rw[g2,qaa];exact .inl ⟨fun u=>g1 u (qav _),rfl⟩
 rw[show((0:Nat):Int)=0 from rfl]at g2;rw[g2,qaa];exact .inr ⟨g1,rfl⟩
structure RN where
 c:Nat
 ps:List Nat
 rows:List (List Int)
def rd(x:RN):S_api_Node:=⟨x.c,iL x.ps,x.rows⟩
def P1(m:Int)(y:S_api_Node):Prop:=(1≤y.card∧y.card≤4)∧zjU m (-1) y.parents
theorem zm0{d:S_api_Net}(hb:Bnd d)(hn:d.nodes.length≤8):∀(n a:Nat) (xs ys:List S_api_Node),xs ++ ys=d.nodes→a≤4 ^ xs.length→ys.length<n →
  ((∀ y∈ys,P1 (d.nodes.length:Int) y)∧zbB d n (a:Int) (xs.length:Int)=some (.go ((a * zaB (ys.map (·.card.toNat)):Nat):Int)))∨
  ((¬ ∀ y∈ys,P1 (d.nodes.length:Int) y)∧zbB d n (a:Int) (xs.length:Int)=some (.ret false))
 | 0,_,_,_,_,_,h=>absurd h (qam _)
 | n+1,a,xs,[],h1,h2,h3=>by
  unfold zbB;rw[qaP]at h1;rw[← h1,zar,decide_eq_false (by omega),cond_false];exact .inl ⟨fun _ h=>(nomatch h),by simp[zaB]⟩
 | n+1,a,xs,y :: ys,h1,h2,h3=>by
  unfold zbB;have hxn:xs.length<d.nodes.length:=by rw[← h1]; simp
  have hy:d.nodes[xs.length]=y:=by simp[← h1]
  have hym:y∈d.nodes:=by rw[← h1]; simp
  rw[zar,decide_eq_true hxn,cond_true,zaJ hxn,qaa,hy];by_cases c1:y.card<1
  ·rw[decide_eq_true c1,cond_true,qaa,cond_true];exact .inr ⟨fun h=>by have:=(h y qas).1.1; omega,rfl⟩
  by_cases c2:4<y.card
  ·rw[decide_eq_false c1,cond_false,decide_eq_true c2,cond_true,qaa,cond_true];exact .inr ⟨fun h=>by have:=(h y qas).1.2; omega,rfl⟩
  obtain⟨b,e,hbb⟩:=zqp (m:=(d.nodes.length:Int)) (hb.node y hym).par;rw[decide_eq_false c1,cond_false,decide_eq_false c2,cond_false,e,qaa,qaa];cases b with
  | false=>
   exact .inr ⟨fun h=>absurd (hbb.2 (h y qas).2) (by decide),rfl⟩
  | true=>
   obtain⟨c,hc⟩:∃ c:Nat,y.card=(c:Int):=⟨y.card.toNat,by omega⟩;have hpw:4 ^ (xs.length+1)≤4 ^ 8:=qbj (by decide) (by omega);have hac:a * c≤4 ^ (xs.length+1):=by rw[Nat.pow_succ]; exact qb1 h2 (by omega)
   rw[qaS,cond_false,hc,← qbg,zaT (by omega),zaq (by omega)];have ih:=zm0 hb hn n (a * c) (xs ++ [y]) ys (by rw[← h1]; simp) (by simpa using hac) (by simp at h3; omega);rw[show(xs ++ [y]).length=xs.length+1 by simp]at ih;rcases ih with⟨g1,g2⟩| ⟨g1,g2⟩
   ·refine .inl ⟨fun z hz=>?_,?_⟩
    ·rcases qaH.1 hz with rfl | hz
     ·exact⟨⟨by omega,by omega⟩,hbb.1 rfl⟩
     exact g1 z hz
    rw[g2,qaD,hc,qaO];show _=some (Out.go (((a * (c * zaB (ys.map (·.card.toNat))):Nat):Int)));rw[qca]
   exact .inr ⟨fun h=>g1 fun z hz=>h z (qar _ hz),g2⟩
theorem zuj{m:Nat}:∀ {ys:List S_api_Node},(∀ y∈ys,P1 (m:Int) y)→∃ rs:List RN,ys=rs.map rd∧∀ x∈rs,(1≤x.c∧x.c≤4)∧x.ps.Pairwise (· < ·)∧∀ p∈x.ps,p<m
 | [],_=>⟨[],rfl,fun _ h=>nomatch h⟩
 | y :: ys,h=>by
  obtain⟨rs,e,h1⟩:=zuj (m:=m) (ys:=ys) fun y hy=>h y (qar _ hy)
  obtain⟨⟨h2,h3⟩,h4⟩:=h y qas;obtain⟨qs,e2,g1,_,g3⟩:=h4.zuY (by omega);refine⟨⟨y.card.toNat,qs,y.rows⟩:: rs,?_,fun x hx=>?_⟩
  ·rw[qaD,← e];congr 1
   obtain⟨c,p,r⟩:=y;simp only at h2 h3 e2;simp only[rd,e2,qbs (show 0≤c by omega)]
  rcases qaH.1 hx with rfl | hx
  ·exact⟨by simp only; omega,g1,g3⟩
  exact h1 x hx
theorem zfc{rs:List RN}{v:Nat}(h:v<rs.length):zaO (rs.map rd) (v:Int)=some (rd rs[v]):=by
 rw[zaJ (by simpa using h)]; simp
theorem zm9{g:Int}{rs:List RN}{v:Nat}(hv:v<rs.length)(hp:∀ p∈rs[v].ps,p<8)(hl:rs[v].ps.length≤8):∀(n i m:Nat),i≤rs[v].ps.length→m<18446744073709551616→rs[v].ps.length - i<n →
  zbd ⟨g,rs.map rd⟩ (v:Int) n (m:Int) (i:Int)=some (((rs[v].ps.drop i).foldl (fun m p=>m ||| 2 ^ p) m:Nat):Int)
 | 0,_,_,_,_,h=>absurd h (qam _)
 | n+1,i,m,h1,h2,h3=>by
  unfold zbd;simp only[];rw[zfc hv,qaa,show(rd rs[v]).parents=iL rs[v].ps from rfl,zaw,zar];by_cases hi:i<rs[v].ps.length
  ·have h8:=hp _ (qao hi);have hpw:2 ^ rs[v].ps[i]<18446744073709551616:=qbG (n:=64) (by decide) (by omega)
   rw[decide_eq_true hi,cond_true,zbS hi,qaa,zvc (by omega),zvZ (by omega),qaa,orU h2 hpw,zaq (by omega),zm9 hv hp hl n (i+1) _ hi (qbW (n:=64) h2 hpw) (by omega),
    qaq hi,qbT]
  rw[decide_eq_false hi,cond_false,qaF (by omega)];rfl
def zc4(rs:List RN):List Nat:=rs.map fun x=>za9 x.ps
theorem zmF{g:Int}{rs:List RN}(hn:rs.length≤8)(hp:∀ x∈rs,x.ps.length≤8∧∀ p∈x.ps,p<8):∀(n i:Nat),i≤rs.length→rs.length - i<n →
  zbe ⟨g,rs.map rd⟩ n (i:Int) (iL (zc4 (rs.take i)))=some (iL (zc4 rs))
 | 0,_,_,h=>absurd h (qam _)
 | n+1,i,h1,h3=>by
  unfold zbe;simp only[];rw[qaB,zar];by_cases hi:i<rs.length
  ·obtain⟨k1,k2⟩:=hp _ (qao hi);have e:=zm9 (g:=g) hi k2 k1 (rs[i].ps.length+2) 0 0 (qav _) (by decide) (by omega);rw[show((0:Nat):Int)=0 from rfl,qa7]at e
   rw[decide_eq_true hi,cond_true,zfc hi,qbh,show(rd rs[i]).parents.length=rs[i].ps.length by simp[rd,zaw],zaF,e,qaa,
    show(rs[i].ps.foldl (fun m p=>m ||| 2 ^ p) 0)=za9 rs[i].ps from rfl,zd2 (by rw[zaw]; simp[zc4]; omega),qaa,zaq (by omega)]
   have ih:=zmF (g:=g) hn hp n (i+1) hi (by omega);rw[← ih];congr 1
   rw[List.take_add_one,qae hi];simp only[zc4,iL,Option.toList_some,qbw,qaD,qby]
  rw[decide_eq_false hi,cond_false,qaM (by omega)]
theorem zqS{g:Int}{rs:List RN}(hn:rs.length≤8)(hp:∀ x∈rs,x.ps.length≤8∧∀ p∈x.ps,p<8):zbJ ⟨g,rs.map rd⟩=some (iL (zc4 rs)):=by
 have e:=zmF (g:=g) hn hp (rs.length+2) 0 (qav _) (by omega);rw[show((0:Nat):Int)=0 from rfl,qbi,show iL (zc4 [])=[]from rfl]at e;unfold zbJ;simp only[];rw[qaB,zaF,e,qaa]
theorem zxI{g:Int}{rs:List RN}{v:Nat}(hl:rs.length≤8)(hv:v<rs.length)(hp:Pl rs.length rs[v].ps)(h8:rs[v].ps.length≤8):
  zaK ⟨g,rs.map rd⟩ (v:Int)=some (iL (rs[v].ps.map fun p=>(rs.map (·.c)).getD p 0)):=by
 unfold zaK;rw[zfc hv,qaa,ziN (by simpa using hl),qaa];have hc:(rs.map rd).map (·.card)=iL (rs.map (·.c)):=by simp[iL,rd,qa4]
 simp only[];rw[hc,show(rd rs[v]).parents=iL rs[v].ps from rfl,zu1 (by rw[zaw,qaB]; exact hp) h8,qaa];congr 1
 simp only[zo4];simp only[iL,List.map_map,qa4]
theorem zmZ{g:Nat}{d:S_api_Net}{r:List Int}(hg:d.grain=(g:Int))(hg2:g≤60)(hl:r.length≤1000):∀(n i a:Nat),i≤r.length→a≤60 * i→r.length - i<n →
  (∃ zs:List Nat,r.drop i=iL zs∧(∀ z∈zs,z≤g)∧zbZ r d n (a:Int) (i:Int)=some (.go ((a+zs.sum:Nat):Int)))∨
  ((¬ ∃ zs:List Nat,r.drop i=iL zs∧∀ z∈zs,z≤g)∧zbZ r d n (a:Int) (i:Int)=some (.ret false))
 | 0,_,_,_,_,h=>absurd h (qam _)
 | n+1,i,a,h1,h2,h3=>by
  unfold zbZ;by_cases hi:i<r.length
  ·have hd:r.drop i=r[i]:: r.drop (i+1):=qaq hi;obtain⟨p,hpp⟩:∃ p,r[i]=p:=⟨_,rfl⟩;rw[zar,decide_eq_true hi,cond_true,zaJ hi,qaa,hd,hpp,hg];by_cases c1:p<0
   ·refine .inr ⟨fun⟨zs,e,_⟩=>?_,by rw[decide_eq_true c1,cond_true,qaa,cond_true]⟩;cases zs with
    | nil=>cases e
    | cons z zs=>simp only[iL,qaD,qbX]at e; omega
   by_cases c2:(g:Int)<p
   ·refine .inr ⟨fun⟨zs,e,hs⟩=>?_,by rw[decide_eq_false c1,cond_false,decide_eq_true c2,qaa,cond_true]⟩;cases zs with
    | nil=>cases e
    | cons z zs=>simp only[iL,qaD,qbX]at e; have:=hs z qas; omega
   obtain⟨q,rfl⟩:∃ q:Nat,p=(q:Int):=⟨p.toNat,by omega⟩;rw[decide_eq_false c1,cond_false,decide_eq_false c2,qaa,cond_false,qaa,← qcE,zaT (by omega),zaq (by omega)];rcases zmZ hg hg2 hl n (i+1) (a+q) hi (by omega) (by omega)with⟨zs,e,hs,g3⟩| ⟨g1,g2⟩
   ·refine .inl ⟨q :: zs,by rw[e]; rfl,fun z hz=>?_,by rw[g3,qbA,qbq]⟩;rcases qaH.1 hz with rfl | hz
    ·omega
    exact hs z hz
   refine .inr ⟨fun⟨zs,e,hs⟩=>g1 ?_,g2⟩;cases zs with
   | nil=>cases e
   | cons z zs=>
    simp only[iL,qaD,qbX]at e;exact⟨zs,e.2,fun z hz=>hs z (qar _ hz)⟩
  rw[zar,decide_eq_false hi,cond_false,qaF (by omega)];exact .inl ⟨[],rfl,fun _ h=>(nomatch h),by simp⟩
theorem zsf:∀ {zs:List Nat} {z:Nat},z∈zs→z≤zs.sum
 | x :: xs,z,h=>by
  rw[qbA];rcases qaH.1 h with rfl | h
  ·omega
  have:=zsf h; omega
theorem zmt{g c:Nat}{d:S_api_Net}{x:S_api_Node}(hg:d.grain=(g:Int))(hg2:g≤60)(hc:x.card=(c:Int))(hb:BndX 1000 x):∀(n i:Nat),i≤x.rows.length→x.rows.length - i<n →
  ((∀ r∈x.rows.drop i,zn7 g c r)∧zb7 x d n (i:Int)=some (.go ()))∨((¬ ∀ r∈x.rows.drop i,zn7 g c r)∧zb7 x d n (i:Int)=some (.ret false))
 | 0,_,_,h=>absurd h (qam _)
 | n+1,i,h1,h3=>by
  unfold zb7;by_cases hi:i<x.rows.length
  ·have hd:x.rows.drop i=x.rows[i]:: x.rows.drop (i+1):=qaq hi;have hrl:=hb.row _ (qao hi);have hrows:=hb.rows;obtain⟨r,hr⟩:∃ r,x.rows[i]=r:=⟨_,rfl⟩;rw[hr]at hrl hd;rw[zar,decide_eq_true hi,cond_true,zaJ hi,qaa,hr,hc,hd];by_cases c1:r.length=c
   ·rw[show(((r.length:Nat):Int)==(c:Int))=true by rw[c1]; simp,cond_true,zaF];have e4:=zmZ (g:=g) (d:=d) hg hg2 hrl (r.length+2) 0 0 (qav _) (by omega) (by omega);rw[show((0:Nat):Int)=0 from rfl,qa7]at e4;rcases e4 with⟨zs,e,hs,e4⟩| ⟨g1,e4⟩
    ·rw[e4,qaa];simp only[];rw[qaU,hg];by_cases c2:zs.sum=g
     ·have hok:zn7 g c r:=⟨zs,e,by rw[← c1,e,zaw],c2⟩;rw[show(((zs.sum:Nat):Int)==(g:Int))=true by rw[c2]; simp,cond_true,zaq (by omega)];rcases zmt hg hg2 hc hb n (i+1) hi (by omega)with⟨g1,g2⟩| ⟨g1,g2⟩
      ·refine .inl ⟨fun z hz=>?_,g2⟩;rcases qaH.1 hz with rfl | hz
       ·exact hok
       exact g1 z hz
      exact .inr ⟨fun h=>g1 fun z hz=>h z (qar _ hz),g2⟩
     rw[show(((zs.sum:Nat):Int)==(g:Int))=false by rw[beq_eq_false_iff_ne]; omega,cond_false];refine .inr ⟨fun h=>?_,rfl⟩;obtain⟨zs',e',_,h7⟩:=h r qas;exact c2 (by rw[zjS (e.symm.trans e'),h7])
    rw[e4,qaa];refine .inr ⟨fun h=>g1 ?_,rfl⟩;obtain⟨zs',e',_,h7⟩:=h r qas;exact⟨zs',e',fun z hz=>by rw[← h7]; exact zsf hz⟩
   rw[show(((r.length:Nat):Int)==(c:Int))=false by rw[beq_eq_false_iff_ne]; omega,cond_false];refine .inr ⟨fun h=>?_,rfl⟩;obtain⟨zs',e',h6,_⟩:=h r qas;exact c1 (by rw[e',zaw,h6])
  rw[zar,decide_eq_false hi,cond_false,qaF (by omega)];exact .inl ⟨fun _ h=>(nomatch h),rfl⟩
def P2(g:Nat)(cs:List Nat)(x:RN):Prop:=x.rows.length=zaB (x.ps.map fun p=>cs.getD p 0)∧∀ r∈x.rows,zn7 g x.c r
theorem zm8{g:Nat}{rs:List RN}(hg2:g≤60)(hn:rs.length≤8)(hb:∀ x∈rs,BndX 1000 (rd x))(hr:∀ x∈rs,(1≤x.c∧x.c≤4)∧x.ps.Pairwise (· < ·)∧∀ p∈x.ps,p<rs.length):∀(n i:Nat),i≤rs.length→rs.length - i<n →
  ((∀ x∈rs.drop i,P2 g (rs.map (·.c)) x)∧zb2 ⟨(g:Int),rs.map rd⟩ n (i:Int)=some (.go ()))∨((¬ ∀ x∈rs.drop i,P2 g (rs.map (·.c)) x)∧zb2 ⟨(g:Int),rs.map rd⟩ n (i:Int)=some (.ret false))
 | 0,_,_,h=>absurd h (qam _)
 | n+1,i,h1,h3=>by
  unfold zb2;simp only[];rw[qaB,zar];by_cases hi:i<rs.length
  ·have hd:rs.drop i=rs[i]:: rs.drop (i+1):=qaq hi;obtain⟨⟨k1,k2⟩,k3,k4⟩:=hr _ (qao hi);have hbx:=hb _ (qao hi);have hpl:rs[i].ps.length≤8:=by have:=ziY k3 k4; omega
   have hq4:∀ z∈rs[i].ps.map (fun p=>(rs.map (·.c)).getD p 0),1≤z∧z≤4:=fun z hz=>by
    obtain⟨p,hp,rfl⟩:=qay.1 hz;have h6:=k4 p hp;rw[show(rs.map (·.c)).getD p 0=rs[p].c by simp[h6]];exact(hr _ (qao h6)).1
   rw[decide_eq_true hi,cond_true,zfc hi,qaa,zxI hn hi k4 hpl,qaa,zlT (fun z hz=>(hq4 z hz).1) (by simpa using hpl) (zjy hq4 (by simpa using hpl)),qaa,hd,
    show(rd rs[i]).rows=rs[i].rows from rfl]
   by_cases c1:rs[i].rows.length=zaB (rs[i].ps.map fun p=>(rs.map (·.c)).getD p 0)
   ·rw[show(((rs[i].rows.length:Nat):Int)==((zaB (rs[i].ps.map fun p=>(rs.map (·.c)).getD p 0):Nat):Int))=true by rw[c1]; simp,cond_true,zaF];have e3:=zmt (g:=g) (c:=rs[i].c) (d:=⟨(g:Int),rs.map rd⟩) (x:=rd rs[i]) rfl hg2 rfl hbx ((rd rs[i]).rows.length+2) 0 (qav _) (by omega);rw[show((0:Nat):Int)=0 from rfl,qa7,show(rd rs[i]).rows=rs[i].rows from rfl]at e3;rcases e3 with⟨g1,e3⟩| ⟨g1,e3⟩
    ·rw[e3,qaa];simp only[];rw[zaq (by omega)];rcases zm8 hg2 hn hb hr n (i+1) hi (by omega)with⟨g3,g2⟩| ⟨g3,g2⟩
     ·refine .inl ⟨fun z hz=>?_,g2⟩;rcases qaH.1 hz with rfl | hz
      ·exact⟨c1,g1⟩
      exact g3 z hz
     exact .inr ⟨fun h=>g3 fun z hz=>h z (qar _ hz),g2⟩
    rw[e3,qaa];exact .inr ⟨fun h=>g1 (h _ qas).2,rfl⟩
   rw[show(((rs[i].rows.length:Nat):Int)==((zaB (rs[i].ps.map fun p=>(rs.map (·.c)).getD p 0):Nat):Int))=false by rw[beq_eq_false_iff_ne]; omega,cond_false];exact .inr ⟨fun h=>c1 (h _ qas).1,rfl⟩
  rw[decide_eq_false hi,cond_false,qaF (by omega)];exact .inl ⟨fun _ h=>(nomatch h),rfl⟩
def zh2(d:S_api_Net):Prop:=∃ g ns,d=zdI g ns∧RightN g ns
theorem zuT{g:Nat}{cs:List Nat}:∀ {rs:List RN},(∀ x∈rs,P2 g cs x)→∃ ns:List NN,rs.map rd=ns.map nd∧rs.map (·.c)=ns.map (·.c)∧rs.map (·.ps)=ns.map (·.ps)∧∀ z∈ns,RowsOk g z.c (zaB (z.ps.map fun p=>cs.getD p 0)) z.rows
 | [],_=>⟨[],rfl,rfl,rfl,fun _ h=>nomatch h⟩
 | x :: rs,h=>by
  obtain⟨ns,e1,e2,e3,h1⟩:=zuT (g:=g) (cs:=cs) (rs:=rs) fun y hy=>h y (qar _ hy)
  obtain⟨h2,h3⟩:=h x qas;obtain⟨zss,e4,h4⟩:=zhJ (p:=fun zs=>zs.length=x.c∧zs.sum=g) (rows:=x.rows) fun r hr=>by
   obtain⟨zs,k1,k2,k3⟩:=h3 r hr;exact⟨zs,k1,k2,k3⟩
  refine⟨⟨x.c,x.ps,zss⟩:: ns,?_,by simp only[qaD,e2],by simp only[qaD,e3],fun z hz=>?_⟩
  ·rw[qaD,qaD,e1];congr 1
   simp only[rd,nd,e4]
  rcases qaH.1 hz with rfl | hz
  ·exact⟨by simp only; rw[← h2,e4,qaB],h4⟩
  exact h1 z hz
theorem zpQ{n:Nat}{pss:List (List Nat)}(hl:pss.length=n)(hp:∀ ps∈pss,∀ p∈ps,p<n):EOk (pss.map za9):=by
 intro v p h;by_cases hv:v<pss.length
 ·rw[show(pss.map za9).getD v 0=za9 pss[v] by simp[hv],zcG]at h;have:=hp _ (qao hv) p (of_decide_eq_true h);exact⟨by simpa using hv,by simpa [hl]using this⟩
 rw[show(pss.map za9).getD v 0=0 by simp[hv]]at h;simp at h
theorem zre{ms:List Nat}(hn:ms.length≤8)(hm:∀ m∈ms,m<18446744073709551616)(he:EOk ms)(hno:∀ u,u<ms.length→zl6 ms u):∃ os,zcN ms os∧os.length=ms.length:=by
 have step:∀ k,k≤ms.length→∃ os,zcN ms os∧os.length=k:=by
  intro k;induction k with
  | zero=>exact fun _=>⟨[],fun k v hk=>by simp at hk,rfl⟩
  | succ k ih=>
   intro hk;obtain⟨os,h1,h2⟩:=ih (by omega);have:∃ v,v<ms.length∧zgk ms (za9 os) v:=qaR fun hn=>by
    obtain⟨v,p,h3,h4,h5⟩:=zlM (ms:=ms) (os:=os) (fun v p h=>(he v p h).2) (by omega) h1.nod fun v hv hr=>hn ⟨v,hv,hr⟩
    exact hno v h3 p h4 h5
   obtain⟨v,hv,hr⟩:=this;obtain⟨u,hu⟩:=zmM v hv hr;exact⟨os ++ [u],h1.app hu,by simp[h2]⟩
 exact step ms.length (qak _)
theorem RightN.zv8{g:Nat}{ns:List NN}(h:RightN g ns):∀ u,u<(zax ns).length→zl6 (zax ns) u:=by
 obtain⟨rk,hg,_⟩:=h.gok;intro u hu p hp hr;have h1:=znP (rk:=rk) (fun v p h=>(hg.down v p h).2) hr;have h2:=(hg.down u p hp).2;omega
theorem RightN.p1{g:Nat}{ns:List NN}(h:RightN g ns):∀ y∈ns.map nd,P1 (ns.length:Int) y:=by
 intro y hy;obtain⟨x,hx,rfl⟩:=qay.1 hy;have hc:=h.card x hx;exact⟨⟨by simp only[nd]; omega,by simp only[nd]; omega⟩,zjU.of (h.inc x hx) (fun q _=>by omega) (h.lt x hx)⟩
theorem zpz{d:S_api_Net}(hb:Bnd d):(zh2 d∧zbq d=some true)∨(¬ zh2 d∧zbq d=some false):=by
 unfold zbq;by_cases c1:d.grain<1
 ·rw[decide_eq_true c1,cond_true,qaa,cond_true];exact .inr ⟨fun⟨g,ns,e,h⟩=>by subst e; have:=h.g1; simp only[zdI]at c1; omega,rfl⟩
 by_cases c2:60<d.grain
 ·rw[decide_eq_false c1,cond_false,decide_eq_true c2,cond_true,qaa,cond_true];exact .inr ⟨fun⟨g,ns,e,h⟩=>by subst e; have:=h.g2; simp only[zdI]at c2; omega,rfl⟩
 by_cases c3:(d.nodes.length:Int)<1
 ·rw[decide_eq_false c1,cond_false,decide_eq_false c2,cond_false,decide_eq_true c3,cond_true,qaa,cond_true];exact .inr ⟨fun⟨g,ns,e,h⟩=>by subst e; have:=h.n1; simp only[zdI,qaB]at c3; omega,rfl⟩
 by_cases c4:8<(d.nodes.length:Int)
 ·rw[decide_eq_false c1,cond_false,decide_eq_false c2,cond_false,decide_eq_false c3,cond_false,decide_eq_true c4,qaa,cond_true];exact .inr ⟨fun⟨g,ns,e,h⟩=>by subst e; have:=h.n2; simp only[zdI,qaB]at c4; omega,rfl⟩
 rw[decide_eq_false c1,cond_false,decide_eq_false c2,cond_false,decide_eq_false c3,cond_false,decide_eq_false c4,qaa,cond_false,zaF];have hn:d.nodes.length≤8:=by omega
 have e1:=zm0 hb hn (d.nodes.length+2) 1 [] d.nodes rfl (by decide) (by omega);rw[qaQ,show((0:Nat):Int)=0 from rfl,show((1:Nat):Int)=1 from rfl,qck]at e1;rcases e1 with⟨g1,e1⟩| ⟨g1,e1⟩
 case inr=>
  rw[e1,qaa];exact .inr ⟨fun⟨g,ns,e,h⟩=>g1 (by subst e; have:=h.p1; simpa [zdI]using this),rfl⟩
 rw[e1,qaa];simp only[];obtain⟨rs,e2,h2⟩:=zuj g1;obtain⟨g,hg⟩:∃ g:Nat,d.grain=(g:Int):=⟨d.grain.toNat,by omega⟩;obtain⟨G,ds⟩:=d;simp only at hg e2;subst hg e2;simp only[qaB]at *;have hcs:(rs.map rd).map (fun y:S_api_Node=>y.card.toNat)=rs.map (·.c):=by simp[rd,qa4]
 rw[hcs];by_cases c5:(1024:Int)<((zaB (rs.map (·.c)):Nat):Int)
 ·rw[decide_eq_true c5,cond_true,qaa,cond_true];refine .inr ⟨fun⟨g',ns,e,h⟩=>?_,rfl⟩;have:rs.map (·.c)=ns.map (·.c):=by
   have h6:=congrArg (fun d:S_api_Net=>d.nodes.map fun y=>y.card.toNat) e;simpa [zdI,rd,nd,qa4]using h6
  have h7:=h.prod;rw[← this]at h7;omega
 have hp8:∀ x∈rs,x.ps.length≤8∧∀ p∈x.ps,p<8:=fun x hx=>by
  obtain⟨_,k3,k4⟩:=h2 x hx;exact⟨by have:=ziY k3 k4; omega,fun p hp=>by have:=k4 p hp; omega⟩
 have hmm:∀ m∈zc4 rs,m<18446744073709551616:=by
  intro m hm;obtain⟨x,hx,rfl⟩:=qay.1 hm;exact Go.Dc.ze2 fun p hp=>by have:=(hp8 x hx).2 p hp; omega
 have hml:(zc4 rs).length=rs.length:=by simp[zc4]
 have hmp:zc4 rs=(rs.map (·.ps)).map za9:=by simp[zc4,qa4]
 have heo:EOk (zc4 rs):=by
  rw[hmp];refine zpQ (n:=rs.length) (by simp) fun ps hps p hp=>?_
  obtain⟨x,hx,rfl⟩:=qay.1 hps;exact(h2 x hx).2.2 p hp
 rw[decide_eq_false c5,cond_false,zqS (by omega) hp8,qaa];rcases zuv (ms:=zc4 rs) (by omega) hmm heo with⟨g3,e3⟩| ⟨g3,e3⟩
 case inr=>
  rw[e3,qaa,qaa,qbd,cond_true];refine .inr ⟨fun⟨g',ns,e,h⟩=>?_,rfl⟩;have:zc4 rs=zax ns:=by
   have h6:=congrArg (fun d:S_api_Net=>d.nodes.map fun y=>za9 (y.parents.map Int.toNat)) e;simpa [zdI,rd,nd,qa4,zc4,zax,iL]using h6
  rw[this]at g3;obtain⟨u,hu,hno⟩:=g3;exact hno (h.zv8 u hu)
 rw[e3,qaa,qaa,qaS,cond_false];have e4:=zm8 (g:=g) (rs:=rs) (by omega) (by omega) (fun x hx=>hb.node _ (qay.2 ⟨x,hx,rfl⟩)) h2 (rs.length+2) 0 (qav _) (by omega);rw[show((0:Nat):Int)=0 from rfl,qa7]at e4;rcases e4 with⟨g4,e4⟩| ⟨g4,e4⟩
 ·rw[e4,qaa];refine .inl ⟨?_,rfl⟩;obtain⟨ns,k1,k2,k3,k4⟩:=zuT g4;have hnl:ns.length=rs.length:=by have:=congrArg List.length k1; simpa using this.symm
  have hmo:zc4 rs=zax ns:=by rw[hmp,k3]; simp[zax,qa4]
  obtain⟨os,o1,o2⟩:=zre (ms:=zc4 rs) (by omega) hmm heo g3;have hz:∀ z∈ns,∃ x∈rs,x.c=z.c∧x.ps=z.ps:=by
   intro z hz;obtain⟨i,hi,rfl⟩:=qbH.1 hz;refine⟨rs[i]'(by omega),qao _,?_,?_⟩
   ·have:=congrArg (fun l:List Nat=>l[i]?) k2;simpa [hi,show i<rs.length by omega]using this
   have:=congrArg (fun l:List (List Nat)=>l[i]?) k3;simpa [hi,show i<rs.length by omega]using this
  refine⟨g,ns,by rw[k1]; rfl,by omega,by omega,by omega,by omega,fun z hzm=>?_,by rw[← k2]; omega,fun z hzm=>?_,fun z hzm=>?_,fun z hzm=>by rw[← k2]; exact k4 z hzm,?_⟩
  ·obtain⟨x,hx,q1,q2⟩:=hz z hzm;rw[← q1]; exact(h2 x hx).1
  ·obtain⟨x,hx,q1,q2⟩:=hz z hzm;rw[← q2]; exact(h2 x hx).2.1
  ·obtain⟨x,hx,q1,q2⟩:=hz z hzm;rw[← q2,hnl]; exact(h2 x hx).2.2
  refine⟨fun v=>os.idxOf v,fun v=>?_,fun v x hv p hp=>?_⟩
  ·have:=List.idxOf_le_length (a:=v) (l:=os); simp only; omega
  have hvl:=(qac.1 hv).1;refine o1.zwG o2 v p (by omega) ?_;rw[hmo,show(zax ns).getD v 0=za9 x.ps by simp[zax,qbM,hv],zcG];exact decide_eq_true hp
 rw[e4,qaa];refine .inr ⟨fun⟨g',ns,e,h⟩=>g4 fun x hx=>?_,rfl⟩;have hgg:(g:Int)=(g':Int):=congrArg S_api_Net.grain e;have hgg:g=g':=by omega
 subst hgg;have hn':rs.map rd=ns.map nd:=congrArg S_api_Net.nodes e;have hcc:rs.map (·.c)=ns.map (·.c):=by
  have h6:=congrArg (fun l:List S_api_Node=>l.map fun y=>y.card.toNat) hn';simpa [rd,nd,qa4]using h6
 obtain⟨i,hi,rfl⟩:=qbH.1 hx;have hil:i<ns.length:=by have:=congrArg List.length hn'; simp at this; omega
 have h6:=congrArg (fun l:List S_api_Node=>l[i]?) hn';simp only[qba,qae hi,qae hil,qaI,qad]at h6;have q1:rs[i].c=ns[i].c:=by have:=congrArg S_api_Node.card h6; simp only[rd,nd]at this; omega
 have q2:rs[i].ps=ns[i].ps:=zjS (congrArg S_api_Node.parents h6);have q3:rs[i].rows=ns[i].rows.map iL:=congrArg S_api_Node.rows h6;have hro:=h.rows _ (qao hil);refine⟨by rw[q3,qaB,hro.len,q2,hcc],fun r hr=>?_⟩;rw[q3]at hr;obtain⟨zs,hz,rfl⟩:=qay.1 hr;have:=hro.row zs hz;exact⟨zs,rfl,by rw[q1]; exact this.1,this.2⟩
theorem zgc{α:Type}{xs:List α}{k:Nat}:∃ ys:List α,zdb xs 0 (zco (xs.length:Int) (k:Int))=some ys∧ys.length≤k∧∀ y∈ys,y∈xs:=by
 have hm:zco (xs.length:Int) (k:Int)=((min xs.length k:Nat):Int):=by unfold zco; split<;>omega
 refine⟨xs.take (min xs.length k),?_,by simp; omega,fun y hy=>qce hy⟩;rw[hm,show(0:Int)=((0:Nat):Int)from rfl];unfold zdb;rw[if_pos (by omega)];simp
theorem zsp{rs:List (List Int)}(hl:rs.length≤20):∀(n i:Nat) (acc:List (List Int)),i≤rs.length→acc.length≤i→(∀ r∈acc,r.length≤6)→rs.length - i<n →
  ∃ out,out.length≤20∧(∀ r∈out,r.length≤6)∧zdo rs n (i:Int) acc=some out
 | 0,_,_,_,_,_,h=>absurd h (qam _)
 | n+1,i,acc,h1,h2,h4,h3=>by
  unfold zdo;rw[zar];by_cases hi:i<rs.length
  ·obtain⟨y,e,hy,_⟩:=zgc (xs:=rs[i]) (k:=6);rw[show((6:Nat):Int)=6 from rfl]at e
   obtain⟨out,k1,k2,k3⟩:=zsp hl n (i+1) (acc ++ [y]) hi (by simp; omega) (fun r hr=>by
    rcases qbc.1 hr with hr | hr
    ·exact h4 r hr
    rw[qaZ.1 hr]; exact hy) (by omega)
   refine⟨out,k1,k2,?_⟩;rw[decide_eq_true hi,cond_true,zaJ hi,qaa,e,qaa,zd2 (by simp; omega),qaa,zaq (by omega),k3]
  exact⟨acc,by omega,h4,by rw[decide_eq_false hi,cond_false]⟩
theorem zsP{xs:List S_api_Node}(hl:xs.length≤9):∀(n i:Nat) (acc:List S_api_Node),i≤xs.length→acc.length≤i→(∀ r∈acc,BndX 100 r)→xs.length - i<n →
  ∃ out,out.length≤9∧(∀ r∈out,BndX 100 r)∧zdm xs n (i:Int) acc=some out
 | 0,_,_,_,_,_,h=>absurd h (qam _)
 | n+1,i,acc,h1,h2,h4,h3=>by
  unfold zdm;rw[zar];by_cases hi:i<xs.length
  ·obtain⟨y6,e6,hy6,_⟩:=zgc (xs:=xs[i].parents) (k:=8);obtain⟨y8,e8,hy8,_⟩:=zgc (xs:=xs[i].rows) (k:=20);rw[show((8:Nat):Int)=8 from rfl]at e6;rw[show((20:Nat):Int)=20 from rfl]at e8;obtain⟨rows,r1,r2,r3⟩:=zsp hy8 (y8.length+2) 0 [] (qav _) (qav _) (fun _ h=>nomatch h) (by omega);rw[show((0:Nat):Int)=0 from rfl]at r3
   obtain⟨out,k1,k2,k3⟩:=zsP hl n (i+1) (acc ++ [⟨xs[i].card,y6,rows⟩]) hi (by simp; omega) (fun r hr=>by
    rcases qbc.1 hr with hr | hr
    ·exact h4 r hr
    rw[qaZ.1 hr]
    exact⟨by simp only; omega,by simp only; omega,fun r hr=>by have:=r2 r hr; omega⟩) (by omega)
   refine⟨out,k1,k2,?_⟩;rw[decide_eq_true hi,cond_true,zaJ hi,qaa,e6,qaa,e8,qaa,zaF,r3,qaa,zd2 (by simp; omega),qaa,zaq (by omega),k3]
  exact⟨acc,by omega,h4,by rw[decide_eq_false hi,cond_false]⟩
theorem zvn(d:S_api_Net):∃ r,ze4 d=some r∧BndK 100 r:=by
 obtain⟨y,e,hy,_⟩:=zgc (xs:=d.nodes) (k:=9);rw[show((9:Nat):Int)=9 from rfl]at e;obtain⟨out,k1,k2,k3⟩:=zsP hy (y.length+2) 0 [] (qav _) (qav _) (fun _ h=>nomatch h) (by omega);rw[show((0:Nat):Int)=0 from rfl]at k3;refine⟨⟨d.grain,out⟩,?_,⟨by simp only; omega,k2⟩⟩;unfold ze4;rw[e,qaa,zaF,k3,qaa]
structure BendOk (b:S_haruspexref05_Bend):Prop where
 what:0≤b.what∧b.what≤255
 at_:0≤b.at_∧b.at_≤255
 row:0≤b.row∧b.row≤255
structure Refused (N:Nat) (d:S_api_Net):Prop where
 par:zf9 d=some ([],50)
 ord:zht d=some ([],50)
 mor:zhp d=some ([],50)
 bla:∀ v,zfJ d v=some (0,50)
 anc:∀ v,zeL N d v=some (0,50)
 des:∀ v,zd9 N d v=some (0,50)
theorem refused{N:Nat}{d:S_api_Net}(h:zaN d=some (zl2,50)):Refused N d:=by
 have t:((50:Int)== 0)=false:=rfl;constructor
 ·unfold zf9; rw[h,qaa]; rfl
 ·unfold zht; rw[h,qaa]; rfl
 ·unfold zhp; rw[h,qaa]; simp only[]; rw[t,cond_false]
 ·intro v; unfold zfJ; rw[h,qaa]; simp only[]; rw[t,cond_false]
 ·intro v; unfold zeL; rw[h,qaa]; simp only[]; rw[t,cond_false]
 intro v; unfold zd9; rw[h,qaa]; simp only[]; rw[t,cond_false]
structure CsOk (cs:List Nat):Prop where
 len:cs.length≤8
 card:∀ c∈cs,1≤c∧c≤4
 prod:zaB cs≤1024
theorem zqz{cs:List Nat}(h:CsOk cs):∀(n:Nat) (xs ys:List Nat),xs ++ ys=cs→ys.length<n→zbs (iL cs) n ((zaB xs:Nat):Int) (xs.length:Int)=some (((zaB cs:Nat):Int),true)
 | 0,_,_,_,h=>absurd h (qam _)
 | n+1,xs,[],h1,h3=>by
  rw[qaP]at h1;subst h1;unfold zbs;rw[zaw,zar,decide_eq_false (by omega),cond_false]
 | n+1,xs,y :: ys,h1,h3=>by
  have hl:=h.len;have hxn:xs.length<cs.length:=by rw[← h1]; simp
  have hy:cs[xs.length]=y:=by simp[← h1]
  have hyc:=h.card y (by rw[← h1]; simp)
  have hb:zaB (xs ++ [y])≤65536:=zjy (fun c hc=>h.card c (by
   rw[← h1];rcases qbc.1 hc with hc | hc
   ·exact List.mem_append_left _ hc
   rw[qaZ.1 hc]; simp)) (by rw[← h1]at hl; simp at hl ⊢; omega)
  have hb2:zaB (xs ++ [y])≤zaB cs:=by
   have:∀(ys:List Nat),(∀ c∈ys,1≤c)→∀ xs,zaB xs≤zaB (xs ++ ys):=by
    intro ys;induction ys with
    | nil=>intro _ xs; simp
    | cons z zs ih=>
     intro hz xs;have h6:=ih (fun c hc=>hz c (qar _ hc)) (xs ++ [z]);rw[ze8]at h6;have h7:=hz z qas;have h8:zaB xs≤zaB xs * z:=qa6 _ h7;rw[show xs ++ [z]++ zs=xs ++ z :: zs by simp]at h6;omega
   have:=this ys (fun c hc=>(h.card c (by rw[← h1]; simp[hc])).1) (xs ++ [y]);rw[show xs ++ [y]++ ys=cs by rw[← h1]; simp]at this;exact this
  have hp:=h.prod;have ih:=zqz h n (xs ++ [y]) ys (by rw[← h1]; simp) (by simp at h3; omega);rw[show(xs ++ [y]).length=xs.length+1 by simp,ze8]at ih;rw[ze8]at hb hb2;unfold zbs
  rw[zaw,zar,decide_eq_true hxn,cond_true,zbS hxn,hy,qaa,show decide ((y:Int)<1)=false from decide_eq_false (by omega),cond_false,show decide ((8:Int)<(y:Int))=false from decide_eq_false (by omega),cond_false,
   ← qbg,zaT (by omega),show decide ((4096:Int)<((zaB xs * y:Nat):Int))=false from decide_eq_false (by omega),qaa,cond_false,zaq (by omega),ih]
theorem zqV{cs:List Nat}(h:CsOk cs):zcD (iL cs)=some (((zaB cs:Nat):Int),true):=by
 have hl:=h.len;have e:=zqz h (cs.length+2) [] cs rfl (by omega);rw[qaQ,show((0:Nat):Int)=0 from rfl,show((zaB []:Nat):Int)=1 from rfl]at e;unfold zcD;rw[zaw,show decide ((12:Int)<((cs.length:Nat):Int))=false from decide_eq_false (by omega),cond_false,zaF,e,qaa]
theorem RightN.cs{g:Nat}{ns:List NN}(h:RightN g ns):CsOk (ns.map (·.c)):=by
 refine⟨by have:=h.n2; simpa using this,fun c hc=>?_,h.prod⟩;obtain⟨x,hx,rfl⟩:=qay.1 hc;exact h.card x hx
theorem zqH{g:Nat}{ns:List NN}(h:RightN g ns):zcm (zdI g ns)=some (iL (ns.map (·.c))):=by
 have hn:=h.n2;rw[ziN (by simpa [zdI]using hn)];simp[zdI,nd,iL,qa4]
theorem zpH{g:Nat}{ns:List NN}(h:RightN g ns):zcB (zdI g ns)=some ((zaB (ns.map (·.c)):Nat):Int):=by
 have hcs:=h.cs;unfold zcB;rw[zqH h,qaa,zlT (fun x hx=>(hcs.card x hx).1) hcs.len (by have:=hcs.prod; omega),qaa]
end Go.Dc
