/-
 Plain laws: what a reading of any net finds: parents, rows. Conditions: none.
-/
import Derived.Test.YtifdmgbehogecaaNwJ7
import Derived.Test.YtifdmgbehogecaaNwJ6
set_option linter.unusedSimpArgs false
set_option linter.unusedVariables false
namespace Go.Dc
open Go Go.Mx Go.Lx
def zmB:S_net_network:=⟨⟨0,[]⟩,[],[],[]⟩
def PsV(m v:Int):Int→List Int→Prop
 | _,[]=>True
 | lo,p :: r=>lo<p∧p<m∧p≠v∧PsV m v p r
def zlz(m:Int):Int→List Int→Prop
 | _,[]=>True
 | lo,p :: r=>lo<p∧p<m∧zlz m p r
theorem PsV.iff{m v:Int}:∀ {ps:List Int} {lo:Int},PsV m v lo ps↔zlz m lo ps∧∀ p∈ps,p≠v
 | [],lo=>by simp[PsV,zlz]
 | p :: r,lo=>by
  simp only[PsV,zlz,PsV.iff (ps:=r) (lo:=p),qaR,forall_eq_or_imp];exact⟨fun⟨a,b,c,d,e⟩=>⟨⟨a,b,d⟩,c,e⟩,fun⟨⟨a,b,d⟩,c,e⟩=>⟨a,b,c,d,e⟩⟩
theorem zlz.zvO{m:Nat}:∀ {ps:List Int} {lo:Int},-1≤lo→zlz m lo ps→∃ qs:List Nat,ps=iL qs∧qs.Pairwise (· < ·)∧(∀ q∈qs,lo<(q:Int))∧∀ q∈qs,q<m
 | [],lo,_,_=>⟨[],rfl,List.Pairwise.nil,by simp,by simp⟩
 | p :: r,lo,hl,h=>by
  obtain⟨h1,h2,h3⟩:=h;obtain⟨qs,e,g1,g2,g3⟩:=h3.zvO (by omega);refine⟨p.toNat :: qs,?_,qb4.2 ⟨fun q hq=>?_,g1⟩,fun q hq=>?_,fun q hq=>?_⟩
  ·rw[e]; simp only[iL,qaE]; congr 1; omega
  ·have:=g2 q hq; omega
  ·rcases qaR.1 hq with rfl | hq
   ·omega
   have:=g2 q hq; omega
  rcases qaR.1 hq with rfl | hq
  ·omega
  exact g3 q hq
theorem zlz.of{m:Nat}:∀ {qs:List Nat} {lo:Int},qs.Pairwise (· < ·)→(∀ q∈qs,lo<(q:Int))→(∀ q∈qs,q<m)→zlz m lo (iL qs)
 | [],lo,_,_,_=>trivial
 | q :: r,lo,h,h1,h2=>by
  obtain⟨h3,h4⟩:=qb4.1 h;show lo<(q:Int)∧(q:Int)<(m:Int)∧zlz m (q:Int) (iL r);refine⟨h1 q qat,by have:=h2 q qat; omega,zlz.of h4 (fun p hp=>by have:=h3 p hp; omega) fun p hp=>h2 p (qar _ hp)⟩
theorem zm1{v:Nat}{ns:S_api_Net}{x:S_api_Node}{xs ys:List Nat}(hn:ns.nodes.length≤8)(hv:xs.length=v)(hpl:x.parents.length≤1000):∀(n i m:Nat) (lo:Int),-1≤lo→i≤x.parents.length→m<18446744073709551616→x.parents.length - i<n →
  (PsV ns.nodes.length v lo (x.parents.drop i)∧∃ qs:List Nat,x.parents.drop i=iL qs∧zbM x ns (v:Int) n lo (i:Int) (iL (xs ++ m :: ys))=some (.go (iL (xs ++ (qs.foldl (fun m p=>m ||| 2 ^ p) m):: ys))))∨
  (¬ PsV ns.nodes.length v lo (x.parents.drop i)∧zbM x ns (v:Int) n lo (i:Int) (iL (xs ++ m :: ys))=some (.ret (zmB,50)))
 | 0,_,_,_,_,_,_,h=>absurd h (qak _)
 | n+1,i,m,lo,hlo,h1,h2,h3=>by
  unfold zbM;by_cases hi:i<x.parents.length
  ·have hd:x.parents.drop i=x.parents[i]:: x.parents.drop (i+1):=qap hi;obtain⟨p,hp⟩:∃ p,x.parents[i]=p:=⟨_,rfl⟩;rw[zaq,decide_eq_true hi,cond_true,zaw hi,qaa,hd,hp];by_cases c1:p≤lo
   ·refine .inr ⟨fun h=>by have:=h.1; omega,?_⟩;rw[decide_eq_true c1,cond_true,qaa,cond_true]; rfl
   by_cases c2:(ns.nodes.length:Int)≤p
   ·refine .inr ⟨fun h=>by have:=h.2.1; omega,?_⟩;rw[decide_eq_false c1,cond_false,decide_eq_true c2,cond_true,qaa,cond_true]; rfl
   by_cases c3:p=(v:Int)
   ·refine .inr ⟨fun h=>h.2.2.1 c3,?_⟩;rw[decide_eq_false c1,cond_false,decide_eq_false c2,cond_false,qaa,show(p ==(v:Int))=true by simp[c3],cond_true]; rfl
   obtain⟨q,rfl⟩:∃ q:Nat,p=(q:Int):=⟨p.toNat,by omega⟩;have hpw:2 ^ q<18446744073709551616:=qbI (n:=64) (by decide) (by omega);have hm:m ||| 2 ^ q<18446744073709551616:=qbY (n:=64) h2 hpw;rw[decide_eq_false c1,cond_false,decide_eq_false c2,cond_false,qaa,show((q:Int)==(v:Int))=false by rw[beq_eq_false_iff_ne]; exact c3,cond_false,← hv,zbR,qaa,zww (by omega),qaa,orU h2 hpw,zd4,qaa,zan (by omega),hv];rcases zm1 (v:=v) (ns:=ns) (x:=x) (xs:=xs) (ys:=ys) hn hv hpl n (i+1) (m ||| 2 ^ q) (q:Int) (by omega) hi hm (by omega)with⟨g1,qs,g2,g3⟩| ⟨g1,g2⟩
   ·exact .inl ⟨⟨by omega,by omega,c3,g1⟩,q :: qs,by rw[g2]; rfl,by rw[g3]; rfl⟩
   exact .inr ⟨fun h=>g1 h.2.2.2,g2⟩
  rw[zaq,decide_eq_false hi,cond_false,qaH (by omega)];exact .inl ⟨qcK,[],rfl,rfl⟩
theorem znj{ps:List Int}{m:Int}(hpl:ps.length≤1000):∀(n i:Nat) (lo:Int),-1≤lo→(i=0→lo = -1)→(∀ h:i - 1<ps.length,i≠0→lo=ps[i - 1])→i≤ps.length→ps.length - i<n →
  (zlz m lo (ps.drop i)∧zbc ps m n (i:Int)=some (.go ()))∨(¬ zlz m lo (ps.drop i)∧zbc ps m n (i:Int)=some (.ret false))
 | 0,_,_,_,_,_,_,h=>absurd h (qak _)
 | n+1,i,lo,hlo,h0,hp,h1,h3=>by
  unfold zbc;by_cases hi:i<ps.length
  ·have hd:ps.drop i=ps[i]:: ps.drop (i+1):=qap hi;obtain⟨p,hpp⟩:∃ p,ps[i]=p:=⟨_,rfl⟩;rw[zaq,decide_eq_true hi,cond_true,zaw hi,qaa,hd,hpp];by_cases c1:p<0
   ·refine .inr ⟨fun h=>by have:=h.1; omega,?_⟩;rw[decide_eq_true c1,cond_true,qaa,cond_true]
   by_cases c2:m≤p
   ·refine .inr ⟨fun h=>by have:=h.2.1; omega,?_⟩;rw[decide_eq_false c1,cond_false,decide_eq_true c2,cond_true,qaa,cond_true]
   rw[decide_eq_false c1,cond_false,decide_eq_false c2,cond_false];have hrec:lo<p→(zlz m lo (p :: ps.drop (i+1))∧zbc ps m n (w64 ((i:Int)+1))=some (.go ()))∨(¬ zlz m lo (p :: ps.drop (i+1))∧zbc ps m n (w64 ((i:Int)+1))=some (.ret false)):=by
    intro hlp;rw[zan (by omega)];rcases znj hpl n (i+1) p (by omega) (fun h=>by omega) (fun h _=>by simp only[Nat.add_sub_cancel]; exact hpp.symm) hi (by omega)with⟨g1,g2⟩| ⟨g1,g2⟩
    ·exact .inl ⟨⟨hlp,by omega,g1⟩,g2⟩
    exact .inr ⟨fun h=>g1 h.2.2,g2⟩
   by_cases c3:i=0
   ·have c4:¬ ((0:Int)<(i:Int)):=by omega
    rw[decide_eq_false c4,cond_false,qaa,cond_false];exact hrec (by have:=h0 c3; omega)
   have hi1:i - 1<ps.length:=by omega
   have hlo':=hp hi1 c3;have c4:(0:Int)<(i:Int):=by omega
   rw[decide_eq_true c4,cond_true,show w64 ((i:Int) - 1)=((i - 1:Nat):Int) by rw[zgN (by omega) (by omega)]; omega,zaw hi1,qaa,qaa,← hlo'];by_cases c5:p≤lo
   ·rw[decide_eq_true c5,cond_true];exact .inr ⟨fun h=>by have:=h.1; omega,rfl⟩
   rw[decide_eq_false c5,cond_false];exact hrec (by omega)
  rw[zaq,decide_eq_false hi,cond_false,qaH (by omega)];exact .inl ⟨qcK,rfl⟩
theorem zpE{ps:List Int}{m:Int}(hpl:ps.length≤1000):∃ b,zdh ps m=some b∧(b=true↔zlz m (-1) ps):=by
 unfold zdh;rw[zay];rcases znj (m:=m) hpl (ps.length+2) 0 (-1) (by omega) (fun _=>rfl) (fun _ h=>absurd rfl h) (qau _) (by omega)with⟨g1,g2⟩| ⟨g1,g2⟩
 ·rw[show((0:Nat):Int)=0 from rfl]at g2;rw[g2,qaa];exact⟨true,rfl,fun _=>g1,fun _=>rfl⟩
 rw[show((0:Nat):Int)=0 from rfl]at g2;rw[g2,qaa];exact⟨false,rfl,fun h=>by(cases h),fun h=>absurd h g1⟩
theorem zkL{a b:List Nat}(h:iL a=iL b):a=b:=by
 have:=congrArg (List.map Int.toNat) h;simpa [iL,qaZ]using this
def zoy(g c:Nat)(r:List Int):Prop:=∃ zs:List Nat,r=iL zs∧zs.length=c∧zs.sum=g
theorem ziO{y:Int×List Int}(hl:y.2.length≤1000):∀(n i r:Nat),i≤y.2.length→r≤65536→y.2.length - i<n →
  (∃ zs:List Nat,y.2.drop i=iL zs∧zs.sum≤r∧zav y n (r:Int) (i:Int)=some (.go ((r - zs.sum:Nat):Int)))∨
  ((¬ ∃ zs:List Nat,y.2.drop i=iL zs∧zs.sum≤r)∧zav y n (r:Int) (i:Int)=some (.ret false))
 | 0,_,_,_,_,h=>absurd h (qak _)
 | n+1,i,r,h1,hr,h3=>by
  unfold zav;by_cases hi:i<y.2.length
  ·have hd:y.2.drop i=y.2[i]:: y.2.drop (i+1):=qap hi;obtain⟨p,hpp⟩:∃ p,y.2[i]=p:=⟨_,rfl⟩;rw[zaq,decide_eq_true hi,cond_true,zaw hi,qaa,hd,hpp];by_cases c1:p<0
   ·refine .inr ⟨fun⟨zs,e,_⟩=>?_,by rw[decide_eq_true c1,cond_true,qaa,cond_true]⟩;cases zs with
    | nil=>cases e
    | cons z zs=>simp only[iL,qaE,qcd]at e; omega
   by_cases c2:(r:Int)<p
   ·refine .inr ⟨fun⟨zs,e,hs⟩=>?_,by rw[decide_eq_false c1,cond_false,qaa,decide_eq_true c2,cond_true]⟩;cases zs with
    | nil=>cases e
    | cons z zs=>simp only[iL,qaE,qcd]at e; rw[qbC]at hs; omega
   obtain⟨q,rfl⟩:∃ q:Nat,p=(q:Int):=⟨p.toNat,by omega⟩;rw[decide_eq_false c1,cond_false,qaa,decide_eq_false c2,cond_false,show((r:Int) - (q:Int))=((r - q:Nat):Int) by omega,zaJ (by omega),zan (by omega)];rcases ziO hl n (i+1) (r - q) hi (by omega) (by omega)with⟨zs,e,hs,g⟩| ⟨g1,g2⟩
   ·refine .inl ⟨q :: zs,by rw[e]; rfl,by rw[qbC]; omega,by rw[g,qbC,Nat.sub_sub]⟩
   refine .inr ⟨fun⟨zs,e,hs⟩=>g1 ?_,g2⟩;cases zs with
   | nil=>cases e
   | cons z zs=>
    simp only[iL,qaE,qcd]at e;rw[qbC]at hs;exact⟨zs,e.2,by omega⟩
  rw[zaq,decide_eq_false hi,cond_false,qaH (by omega)];exact .inl ⟨[],rfl,qau _,by simp⟩
theorem ziD{g c:Nat}{nw:S_net_network}{x:S_api_Node}(hg:nw.net.grain=(g:Int))(hg2:g≤60)(hc:x.card=(c:Int)):∀(L:List (Int×List Int)),(∀ y∈L,y.2.length≤1000)→
  ((∀ y∈L,zoy g c y.2)∧zau nw x L=some (.go ()))∨((¬ ∀ y∈L,zoy g c y.2)∧zau nw x L=some (.ret false))
 | [],_=>.inl ⟨fun _ h=>(nomatch h),rfl⟩
 | y :: L,h=>by
  unfold zau;have hy:=h y qat;rw[hg,zay];rcases ziO hy (y.2.length+2) 0 g (qau _) (by omega) (by omega)with⟨zs,e,hs,e3⟩| ⟨e1,e3⟩
  ·rw[show((0:Nat):Int)=0 from rfl]at e3;rw[qa4]at e;rw[e3,qaa];simp only[];rw[hc,e,zat];by_cases c1:zs.length=c
   ·rw[show(((zs.length:Nat):Int)==(c:Int))=true by simp[c1],cond_true,qaa];by_cases c2:zs.sum=g
    ·rw[c2,qbQ,show(!(((0:Nat):Int)== 0))=false from rfl,cond_false];rcases ziD hg hg2 hc L fun y hy=>h y (qar _ hy)with⟨g1,g2⟩| ⟨g1,g2⟩
     ·refine .inl ⟨fun z hz=>?_,g2⟩;rcases qaR.1 hz with rfl | hz
      ·exact⟨zs,e,c1,c2⟩
      exact g1 z hz
     exact .inr ⟨fun hh=>g1 fun z hz=>hh z (qar _ hz),g2⟩
    rw[show(!(((g - zs.sum:Nat):Int)== 0))=true by simp; omega,cond_true];refine .inr ⟨fun hh=>?_,rfl⟩;obtain⟨zs',e',_,h7⟩:=hh y qat;rw[e]at e';have:zs=zs':=zkL e';exact c2 (by rw[this,h7])
   rw[show(((zs.length:Nat):Int)==(c:Int))=false by simp; omega,cond_false,qaa,cond_true];refine .inr ⟨fun hh=>?_,rfl⟩;obtain⟨zs',e',h6,_⟩:=hh y qat;rw[e]at e';have:=congrArg List.length e';rw[zat,zat]at this;omega
  rw[show((0:Nat):Int)=0 from rfl]at e3;rw[qa4]at e1;rw[e3,qaa];refine .inr ⟨fun hh=>e1 ?_,rfl⟩;obtain⟨zs,e,h6,h7⟩:=hh y qat;exact⟨zs,e,by omega⟩
theorem zcY(cs:List Nat)(c:Nat):zam (cs ++ [c])=zam cs * c:=by
 induction cs with
 | nil=>simp[zam]
 | cons x xs ih=>show x * zam (xs ++ [c])=x * zam xs * c; rw[ih,qbB]
theorem zjr{cs:List Nat}(h:∀ c∈cs,1≤c∧c≤4)(hl:cs.length≤8):zam cs≤65536:=
 qav (zf5 (m:=4) (by omega) fun x hx=>(h x hx).2) (qav (qbk (by decide) hl) (by decide))
theorem znP{d:S_api_Net}(hn:d.nodes.length≤8):∀(n:Nat) (xs ys:List S_api_Node) (cs:List Nat),xs ++ ys=d.nodes→xs.map (·.card)=iL cs→(∀ c∈cs,1≤c∧c≤4)→ys.length<n →
  zbl d n ((zam cs:Nat):Int) (xs.length:Int) (iL (cs ++ List.replicate ys.length 0))=some (.ret (zmB,50))∨
  ∃ cs':List Nat,d.nodes.map (·.card)=iL cs'∧(∀ c∈cs',1≤c∧c≤4)∧zbl d n ((zam cs:Nat):Int) (xs.length:Int) (iL (cs ++ List.replicate ys.length 0))=some (.go (((zam cs':Nat):Int),iL cs'))
 | 0,_,_,_,_,_,_,h=>absurd h (qak _)
 | n+1,xs,[],cs,h1,h2,h4,h3=>by
  unfold zbl;rw[qaF]at h1;subst h1;rw[zaq,decide_eq_false (by omega),cond_false];exact .inr ⟨cs,h2,h4,by simp⟩
 | n+1,xs,y :: ys,cs,h1,h2,h4,h3=>by
  unfold zbl;have hxl:cs.length=xs.length:=by have:=congrArg List.length h2; simpa [zat]using this.symm
  have hxn:xs.length<d.nodes.length:=by rw[← h1]; simp
  have hy:d.nodes[xs.length]=y:=by simp[← h1]
  rw[zaq,decide_eq_true hxn,cond_true,zaw hxn,qaa,hy];by_cases c1:y.card<1
  ·rw[decide_eq_true c1,cond_true,qaa,cond_true];exact .inl rfl
  by_cases c2:4<y.card
  ·rw[decide_eq_false c1,cond_false,decide_eq_true c2,qaa,cond_true];exact .inl rfl
  obtain⟨c,hc⟩:∃ c:Nat,y.card=(c:Int):=⟨y.card.toNat,by omega⟩;have h4':∀ z∈cs ++ [c],1≤z∧z≤4:=fun z hz=>by
   rcases qbd.1 hz with hz | hz
   ·exact h4 z hz
   rw[qa1.1 hz]; omega
  have hb:zam (cs ++ [c])≤65536:=zjr h4' (by simp; omega);have ih:=znP hn n (xs ++ [y]) ys (cs ++ [c]) (by rw[← h1]; simp) (by rw[qbr,h2]; simp[iL,hc]) h4' (by simp at h3; omega);have hcx:((xs.length:Nat):Int)=((cs.length:Nat):Int):=by rw[hxl]
  rw[decide_eq_false c1,cond_false,decide_eq_false c2,qaa,cond_false,qaM,qa2,hcx,zbR,qaa,hc,zd4,qaa,← qa8,← zcY,zaJ (by omega),zan (by omega)];rw[show(xs ++ [y]).length=cs.length+1 by simp[hxl],show cs ++ [c]++ List.replicate ys.length 0=cs ++ c :: List.replicate ys.length 0 by simp]at ih;exact ih
theorem zhT{p:List Nat→Prop}:∀ {rows:List (List Int)},(∀ r∈rows,∃ zs:List Nat,r=iL zs∧p zs)→∃ zss:List (List Nat),rows=zss.map iL∧∀ zs∈zss,p zs
 | [],_=>⟨[],rfl,fun _ h=>nomatch h⟩
 | r :: rows,h=>by
  obtain⟨zs,e,h1⟩:=h r qat;obtain⟨zss,e2,h2⟩:=zhT (rows:=rows) fun r hr=>h r (qar _ hr)
  refine⟨zs :: zss,by rw[e,e2]; rfl,fun z hz=>?_⟩;rcases qaR.1 hz with rfl | hz
  ·exact h1
  exact h2 z hz
theorem zrR{g c:Nat}{cs ps:List Nat}{nodes:List S_api_Node}{sets order:List Int}{x:S_api_Node}(hg2:g≤60)(hc:x.card=(c:Int))(hps:x.parents=iL ps)(hp:Pl cs.length ps)(hl:ps.length≤8)(hcs:∀ p∈ps,1≤cs.getD p 0)
  (hm:zam (ps.map fun p=>cs.getD p 0)≤65536) (hrl:x.rows.length≤1000) (hrr:∀ r∈x.rows,r.length≤1000):
  zaH ⟨⟨(g:Int),nodes⟩,iL cs,sets,order⟩ x=some false∨zaH ⟨⟨(g:Int),nodes⟩,iL cs,sets,order⟩ x=some true∧∃ rows,x.rows=rows.map iL∧RowsOk g c (zam (ps.map fun p=>cs.getD p 0)) rows:=by
 unfold zaH;have e:=zhl (x:=x) (nodes:=⟨(g:Int),nodes⟩) (sets:=sets) (order:=order) hps hp hl hcs (ps.length+2) 0 1 (qau _) (by simpa using hm) (by omega);rw[show((0:Nat):Int)=0 from rfl,show((1:Nat):Int)=1 from rfl,qa4,qb0]at e;rw[hps,zat,zay,e,qaa];by_cases c1:x.rows.length=zam (ps.map fun p=>cs.getD p 0)
 ·rw[show(((x.rows.length:Nat):Int)==((zam (ps.map fun p=>cs.getD p 0):Nat):Int))=true by rw[c1]; simp,cond_true];unfold zff;rw[qaa];have hs:ze3 x.rows=some ():=by
   unfold ze3;rw[if_pos (by omega)]
  rw[hs,qaa];have hz:∀ y:Int×List Int,y∈zq1 x.rows→y.2∈x.rows:=by
   intro y hy;unfold zq1 at hy;obtain⟨q,hq,rfl⟩:=qaA.1 hy;have:=List.mem_zipIdx' hq;rw[this.2]; exact qan _
  rcases ziD (g:=g) (c:=c) (nw:=⟨⟨(g:Int),nodes⟩,iL cs,sets,order⟩) (x:=x) rfl hg2 hc (zq1 x.rows) (fun y hy=>hrr _ (hz y hy))with⟨g1,g2⟩| ⟨g1,g2⟩
  ·rw[g2,qaa];refine .inr ⟨rfl,?_⟩;obtain⟨rows,e1,e2⟩:=zhT (p:=fun zs=>zs.length=c∧zs.sum=g) (rows:=x.rows) fun r hr=>by
    obtain⟨i,hi,rfl⟩:=qbJ.1 hr;obtain⟨zs,h1,h2,h3⟩:=g1 ((i:Int),x.rows[i]) (qaA.2 ⟨(x.rows[i],i),List.mk_mem_zipIdx_iff_getElem?.2 (qae hi),rfl⟩);exact⟨zs,h1,h2,h3⟩
   exact⟨rows,e1,by rw[← c1,e1,qaD],e2⟩
  rw[g2,qaa];exact .inl rfl
 rw[show(((x.rows.length:Nat):Int)==((zam (ps.map fun p=>cs.getD p 0):Nat):Int))=false by rw[beq_eq_false_iff_ne]; omega,cond_false];exact .inl rfl
structure NdOk (g:Nat) (cs:List Nat) (z:NN):Prop where
 inc:z.ps.Pairwise (· < ·)
 lt:∀ p∈z.ps,p<cs.length
 rows:RowsOk g z.c (zam (z.ps.map fun p=>cs.getD p 0)) z.rows
theorem PsV.zvO{m v:Nat}{ps:List Int}(h:PsV m v (-1) ps):∃ qs:List Nat,ps=iL qs∧qs.Pairwise (· < ·)∧(∀ q∈qs,q<m)∧∀ q∈qs,q≠v:=by
 obtain⟨h1,h2⟩:=PsV.iff.1 h;obtain⟨qs,e,g1,_,g3⟩:=h1.zvO (by omega);refine⟨qs,e,g1,g3,fun q hq he=>?_⟩;exact h2 (q:Int) (by rw[e]; exact qaA.2 ⟨q,hq,rfl⟩) (by rw[he])
structure BndX (k:Nat) (x:S_api_Node):Prop where
 par:x.parents.length≤k
 rows:x.rows.length≤k
 row:∀ r∈x.rows,r.length≤k
structure BndK (k:Nat) (d:S_api_Net):Prop where
 nodes:d.nodes.length≤k
 node:∀ x∈d.nodes,BndX k x
theorem BndX.mono{k m:Nat}{x:S_api_Node}(h:BndX k x)(hk:k≤m):BndX m x:=⟨qav h.par hk,qav h.rows hk,fun r hr=>qav (h.row r hr) hk⟩
theorem BndK.mono{k m:Nat}{d:S_api_Net}(h:BndK k d)(hk:k≤m):BndK m d:=⟨qav h.nodes hk,fun x hx=>(h.node x hx).mono hk⟩
abbrev Bnd(d:S_api_Net):Prop:=BndK 1000 d
theorem znL{g:Nat}{cs:List Nat}{d:S_api_Net}(hg:d.grain=(g:Int))(hg2:g≤60)(hb:Bnd d)(hn:d.nodes.length≤8)(hcs:d.nodes.map (·.card)=iL cs)(hc:∀ c∈cs,1≤c∧c≤4):∀(n:Nat) (zs:List NN) (ys:List S_api_Node),zs.map nd ++ ys=d.nodes →
  (∀ z∈zs,NdOk g cs z)→ys.length<n →
  zbk d (iL cs) n (zs.length:Int) (iL (zs.map (fun x=>zba x.ps)++ List.replicate ys.length 0))=some (.ret (zmB,50))∨
  ∃ ns:List NN,d.nodes=ns.map nd∧(∀ z∈ns,NdOk g cs z)∧zbk d (iL cs) n (zs.length:Int) (iL (zs.map (fun x=>zba x.ps)++ List.replicate ys.length 0))=some (.go (iL (zax ns)))
 | 0,_,_,_,_,h=>absurd h (qak _)
 | n+1,zs,[],h1,h2,h3=>by
  unfold zbk;rw[qaF]at h1;rw[← h1,qaD,zaq,decide_eq_false (by omega),cond_false];exact .inr ⟨zs,rfl,h2,by simp[zax]⟩
 | n+1,zs,y :: ys,h1,h2,h3=>by
  unfold zbk;have hxn:zs.length<d.nodes.length:=by rw[← h1]; simp
  have hy:d.nodes[zs.length]=y:=by simp[← h1]
  have hym:y∈d.nodes:=by rw[← h1]; simp
  have hcl:cs.length=d.nodes.length:=by have:=congrArg List.length hcs; simpa [zat]using this.symm
  have hyc:y.card=((cs[zs.length]'(by omega):Nat):Int):=by
   have:(d.nodes.map (·.card))[zs.length]'(by simpa using hxn)=(iL cs)[zs.length]'(by rw[zat]; omega):=by simp only[hcs]
   rw[List.getElem_map,hy,zsz (by omega)]at this;exact this
  obtain⟨c,hcc⟩:∃ c,cs[zs.length]'(by omega)=c:=⟨_,rfl⟩;rw[hcc]at hyc;rw[zaq,decide_eq_true hxn,cond_true,zaw hxn,qaa,hy,qaM,qa2,zay];have e3:=zm1 (v:=zs.length) (ns:=d) (x:=y) (xs:=zs.map fun x=>zba x.ps) (ys:=List.replicate ys.length 0) hn (by simp) (hb.node y hym).par (y.parents.length+2) 0 0 (-1) (by omega) (qau _) (by decide) (by omega);rw[show((0:Nat):Int)=0 from rfl,qa4]at e3;rcases e3 with⟨g1,qs,g2,g3⟩| ⟨g1,g2⟩
  ·rw[g3,qaa];simp only[];rw[show(qs.foldl (fun m p=>m ||| 2 ^ p) 0)=zba qs from rfl];obtain⟨qs',e,k1,k2,k3⟩:=g1.zvO;have:qs'=qs:=zkL (by rw[← e,← g2]);subst this;have hps:∀ p∈qs',p<cs.length:=fun p hp=>by rw[hcl]; exact k2 p hp
   have hq4:∀ p∈qs',1≤cs.getD p 0∧cs.getD p 0≤4:=fun p hp=>by
    have h6:=hps p hp;rw[show cs.getD p 0=cs[p] by simp[h6]];exact hc _ (qan h6)
   have hql:qs'.length≤8:=by have:=zjY k1 k2; omega
   obtain⟨G,ds⟩:=d;simp only at hg hn hcs hb hxn hy hym hcl h1 ⊢;subst hg;rcases zrR (g:=g) (c:=c) (cs:=cs) (ps:=qs') (nodes:=ds) (sets:=iL (zs.map (fun x=>zba x.ps)++ zba qs' :: List.replicate ys.length 0)) (order:=[]) (x:=y) hg2 hyc g2 hps hql (fun p hp=>(hq4 p hp).1)
    (zjr (fun z hz=>by obtain⟨p,hp,rfl⟩:=qaA.1 hz; exact hq4 p hp) (by simpa using hql)) (hb.node y hym).rows (hb.node y hym).row with e4 | ⟨e4,rows,r1,r2⟩
   ·rw[e4,qaa,cond_false];exact .inl rfl
   have hnd:nd ⟨c,qs',rows⟩=y:=by
    cases y;simp only at hyc g2 r1;simp only[nd,hyc,g2,r1]
   have ih:=znL (d:=⟨(g:Int),ds⟩) rfl hg2 hb hn hcs hc n (zs ++ [⟨c,qs',rows⟩]) ys (by rw[← h1,qbr,← hnd]; simp) (fun z hz=>by
    rcases qbd.1 hz with hz | hz
    ·exact h2 z hz
    rw[qa1.1 hz]; exact⟨k1,hps,r2⟩) (by simp at h3; omega)
   rw[e4,qaa,cond_true,zan (by omega)];rw[show(zs ++ [(⟨c,qs',rows⟩:NN)]).length=zs.length+1 by simp,show(zs ++ [(⟨c,qs',rows⟩:NN)]).map (fun x=>zba x.ps)++ List.replicate ys.length 0=zs.map (fun x=>zba x.ps)++ zba qs' :: List.replicate ys.length 0 by simp]at ih;exact ih
  rw[g2,qaa];exact .inl rfl
theorem ziw{ms os:List Nat}{mask C:Nat}(hn:ms.length≤8)(hm:∀ m∈ms,m<18446744073709551616)(hk:mask<18446744073709551616)(hC:os.length+1≤C):∀(n i:Nat),i≤ms.length→(∀ u,u<i→¬ zgF ms mask u)→ms.length - i<n →
  ((∀ u,u<ms.length→¬ zgF ms mask u)∧za5 (iL ms) (mask:Int) C n (i:Int) (iL os)=some (.go ()))∨
  ∃ v,First ms mask v∧za5 (iL ms) (mask:Int) C n (i:Int) (iL os)=some (.brk (((mask ||| 2 ^ v:Nat):Int),iL (os ++ [v])))
 | 0,_,_,_,h=>absurd h (qak _)
 | n+1,i,h1,h2,h3=>by
  by_cases hi:i<ms.length
  ·obtain⟨b,hb,e,_⟩:=zkG hm hk hi (by omega) (iL os);cases b with
   | true=>
    have hf:First ms mask i:=⟨hi,hb.1 rfl,h2⟩;exact .inr ⟨i,hf,zhP hn hm hk hC hf (n+1) i (qal _) (by omega)⟩
   | false=>
    have hno:¬ zgF ms mask i:=fun h=>by have:=hb.2 h; cases this
    have ih:=ziw hn hm hk hC n (i+1) hi (fun u hu=>by
     by_cases hui:u=i
     ·rw[hui]; exact hno
     exact h2 u (by omega)) (by omega)
    unfold za5;rw[zat,zaq,decide_eq_true hi,cond_true,zbB hi,qaa,e,qaa];simp only[];rw[cond_false,zan (by omega)];exact ih
  refine .inl ⟨fun u hu=>h2 u (by omega),?_⟩;unfold za5;rw[zat,zaq,decide_eq_false hi,cond_false]
theorem ziP{ms:List Nat}(hn:ms.length≤8)(hm:∀ m∈ms,m<18446744073709551616):∀(n:Nat) (os:List Nat),zcU ms os→os.length≤ms.length→ms.length - os.length<n →
  zbb (iL ms) ms.length n ((zba os:Nat):Int) (iL os)=some (.ret ([],false))∨
  ∃ os',zcU ms os'∧os'.length=ms.length∧zbb (iL ms) ms.length n ((zba os:Nat):Int) (iL os)=some (.go (iL os'))
 | 0,_,_,_,h=>absurd h (qak _)
 | n+1,os,h1,h2,h3=>by
  unfold zbb;rw[zat,zat,zaq];by_cases hl:os.length<ms.length
  ·have hk:zba os<18446744073709551616:=Go.Dc.zeU fun x hx=>by
    have:=h1.lt x hx;omega
   rw[decide_eq_true hl,cond_true,zay];rcases ziw (os:=os) (C:=ms.length) hn hm hk (by omega) (ms.length+2) 0 (qau _) (fun u hu=>absurd hu (qak _)) (by omega)with⟨g1,g2⟩| ⟨v,g1,g2⟩
   ·rw[show((0:Nat):Int)=0 from rfl]at g2;rw[g2,qaa];exact .inl rfl
   rw[show((0:Nat):Int)=0 from rfl]at g2;rw[g2,qaa];simp only[];rw[← znK];exact ziP hn hm n (os ++ [v]) (h1.app g1) (by simp; omega) (by simp; omega)
  exact .inr ⟨os,h1,by omega,by rw[decide_eq_false hl,cond_false]⟩
theorem zr1{ms:List Nat}(hn:ms.length≤8)(hm:∀ m∈ms,m<18446744073709551616):
  zbI (iL ms)=some ([],false)∨∃ os,zcU ms os∧os.length=ms.length∧zbI (iL ms)=some (iL os,true):=by
 unfold zbI;rw[zat];have hcap:zsV 8 ((ms.length:Nat):Int)=some ms.length:=by
  unfold zsV;rw[if_pos ⟨qbm _,by simp only[zad]; omega⟩,qaP]
 rw[hcap,qaa,show(((ms.length:Nat):Int) - ((([]:List Int).length:Nat):Int)+2).toNat=ms.length+2 by simp; omega];have e:=ziP hn hm (ms.length+2) [] (fun k v hk=>by simp at hk) (qau _) (by simp);rw[show((zba []:Nat):Int)=0 from rfl,show iL []=[]from rfl]at e;rcases e with e | ⟨os,g1,g2,e⟩
 ·rw[e,qaa]; exact .inl rfl
 rw[e,qaa]; exact .inr ⟨os,g1,g2,rfl⟩
theorem zue{d:S_api_Net}(hb:Bnd d):zaO d=some (zmB,50)∨∃ g ns,d=zb2 g ns∧RightN g ns:=by
 unfold zaO;by_cases c1:d.grain<1
 ·rw[decide_eq_true c1,cond_true,qaa,cond_true]; exact .inl rfl
 by_cases c2:60<d.grain
 ·rw[decide_eq_false c1,cond_false,decide_eq_true c2,cond_true,qaa,cond_true]; exact .inl rfl
 by_cases c3:(d.nodes.length:Int)<1
 ·rw[decide_eq_false c1,cond_false,decide_eq_false c2,cond_false,decide_eq_true c3,cond_true,qaa,cond_true]; exact .inl rfl
 by_cases c4:8<(d.nodes.length:Int)
 ·rw[decide_eq_false c1,cond_false,decide_eq_false c2,cond_false,decide_eq_false c3,cond_false,decide_eq_true c4,qaa,cond_true]; exact .inl rfl
 rw[decide_eq_false c1,cond_false,decide_eq_false c2,cond_false,decide_eq_false c3,cond_false,decide_eq_false c4,qaa,cond_false];have hn:d.nodes.length≤8:=by omega
 have hz:List.replicate d.nodes.length (0:Int)=iL (List.replicate d.nodes.length 0):=by simp[iL]
 rw[zfQ (by omega),qaa,qaa,zay,hz];have e1:=znP hn (d.nodes.length+2) [] d.nodes [] rfl rfl (fun _ h=>nomatch h) (by omega);simp only[qa9,qaL]at e1;rw[show((0:Nat):Int)=0 from rfl,show((zam []:Nat):Int)=1 from rfl]at e1;rcases e1 with e1 | ⟨cs,h1,h2,e1⟩
 ·rw[e1,qaa]; exact .inl rfl
 rw[e1,qaa];simp only[];by_cases c5:(1024:Int)<((zam cs:Nat):Int)
 ·rw[decide_eq_true c5,cond_true]; exact .inl rfl
 rw[decide_eq_false c5,cond_false];obtain⟨g,hg⟩:∃ g:Nat,d.grain=(g:Int):=⟨d.grain.toNat,by omega⟩;have e2:=znL hg (by omega) hb hn h1 h2 (d.nodes.length+2) [] d.nodes rfl (fun _ h=>nomatch h) (by omega);simp only[qbu,qa9,qaL]at e2;rw[show((0:Nat):Int)=0 from rfl]at e2;rcases e2 with e2 | ⟨ns,h3,h4,e2⟩
 ·rw[e2,qaa]; exact .inl rfl
 rw[e2,qaa];simp only[];have hnl:ns.length=d.nodes.length:=by rw[h3,qaD]
 have hcs:ns.map (·.c)=cs:=by
  apply zkL;rw[← h1,h3];simp[iL,nd,qaZ]
 have hml:(zax ns).length=ns.length:=by simp[zax]
 have hlt:∀ x∈ns,∀ p∈x.ps,p<ns.length:=fun x hx p hp=>by
  have:=(h4 x hx).lt p hp;rw[← hcs,qaD]at this;exact this
 have hmm:∀ m∈zax ns,m<18446744073709551616:=by
  intro m hm;obtain⟨x,hx,rfl⟩:=qaA.1 hm;refine Go.Dc.zeU fun p hp=>?_
  have:=hlt x hx p hp;omega
 rcases zr1 (ms:=zax ns) (by omega) hmm with e3 | ⟨os,k1,k2,e3⟩
 ·rw[e3,qaa]; simp only[]; rw[cond_false]; exact .inl rfl
 refine .inr ⟨g,ns,?_,?_⟩
 ·obtain⟨G,ds⟩:=d;simp only at hg h3;rw[hg,h3]; rfl
 refine⟨by omega,by omega,by omega,by omega,fun x hx=>h2 _ (by rw[← hcs]; exact qaA.2 ⟨x,hx,rfl⟩),by rw[hcs]; omega,fun x hx=>(h4 x hx).inc,hlt,fun x hx=>by rw[hcs]; exact(h4 x hx).rows,?_⟩;refine⟨fun v=>os.idxOf v,fun v=>?_,fun v x hv p hp=>?_⟩
 ·have:=List.idxOf_le_length (a:=v) (l:=os); simp only; omega
 have hvl:=(qac.1 hv).1;refine k1.zwO k2 v p (by omega) ?_;rw[show(zax ns).getD v 0=zba x.ps by simp[zax,qbO,hv],zcK];exact decide_eq_true hp
theorem BndX.fit{x:S_api_Node}(h:BndX 1000 x):FitN x:=⟨by have:=h.par; simp only[zad]; omega,by have:=h.rows; simp only[zad]; omega,fun r hr=>by have:=h.row r hr; simp only[zad]; omega⟩
theorem BndK.set{k t:Nat}{g:Int}{d:S_api_Net}{y:S_api_Node}(h:BndK k d)(hy:BndX k y):BndK k ⟨g,d.nodes.set t y⟩:=
 ⟨by simpa using h.nodes,fun x hx=>by
  rcases qbS hx with hx | hx
  ·exact h.node x hx
  rw[hx]; exact hy⟩
theorem ztf{n:Nat}:∀ {r:List Int} (i k:Nat) (hi:k+1≤r.length) (h3:k+1 - i<n) (hl:r.length≤1000),i≤k+1→∃ r2,swL n (i:Int) (k:Int) r=some r2∧r2.length=r.length:=by
 induction n with
 | zero=>intro r i k hi h3; exact absurd h3 (qak _)
 | succ n ih=>
  intro r i k hi h3 hl h4;unfold swL;rw[zaq];by_cases hik:i<k
  ·rw[decide_eq_true hik,cond_true,zaw (by omega),qaa,zaw (by omega),qaa,zgZ (by omega),qaa,zgZ (by simp; omega),qaa,zan (by omega),
    show w64 ((k:Int) - 1)=((k - 1:Nat):Int) by rw[zgN (by omega) (by omega)]; omega]
   obtain⟨r2,e,h5⟩:=ih (r:=(r.set i (r[k]'(by omega))).set k (r[i]'(by omega))) (i+1) (k - 1) (by simp; omega) (by omega) (by simpa using hl) (by omega);exact⟨r2,e,by simpa using h5⟩
  rw[decide_eq_false hik,cond_false];exact⟨r,rfl,rfl⟩
theorem zvc{r:List Int}(hl:r.length≤1000):∃ r2,swL (r.length+2) 0 (w64 ((r.length:Int) - 1)) r=some r2∧r2.length=r.length:=by
 by_cases h0:r.length=0
 ·have:r=[]:=qao h0;subst this;exact⟨[],rfl,rfl⟩
 rw[show w64 ((r.length:Int) - 1)=((r.length - 1:Nat):Int) by rw[zgN (by omega) (by omega)]; omega];exact ztf (n:=r.length+2) 0 (r.length - 1) (by omega) (by omega) hl (by omega)
theorem zdV{b:S_haruspexref05_Bend}{n:S_api_Net}{x:S_api_Node}{t:Nat}(hb:BndK 100 n)(hx:BndX 100 x):∀ k,(k≤4∨k=10∨k=11)→∃ r,zrX b n x t k=some r∧BndK 101 r:=by
 have hb':=hb.mono (m:=101) (by omega);have hx':=hx.mono (m:=101) (by omega);rintro k (hk | rfl | rfl)
 ·match k,hk with
  | 0,_=>exact⟨_,rfl,⟨hb'.nodes,hb'.node⟩⟩
  | 1,_=>exact⟨_,rfl,hb'.set ⟨hx'.par,hx'.rows,hx'.row⟩⟩
  | 2,_=>exact⟨_,rfl,hb'.set ⟨by have:=hx.par; simp; omega,hx'.rows,hx'.row⟩⟩
  | 3,_=>exact⟨_,rfl,hb'.set ⟨by simp,hx'.rows,hx'.row⟩⟩
  | 4,_=>exact⟨_,rfl,hb'.set ⟨hx'.par,by have:=hx.rows; simp; omega,fun r hr=>by
    rcases qbd.1 hr with hr | hr
    ·exact hx'.row r hr
    rw[qa1.1 hr]; simp⟩⟩
 ·refine⟨_,rfl,⟨by have:=hb.nodes; simp; omega,fun y hy=>?_⟩⟩;rcases qbd.1 hy with hy | hy
  ·exact hb'.node y hy
  rw[qa1.1 hy];exact⟨by simp,by simp,fun r hr=>by rw[qa1.1 hr]; simp⟩
 exact⟨_,rfl,⟨by have:=hb'.nodes; simp; omega,fun y hy=>hb'.node y (qcj hy)⟩⟩
theorem BndX.zwu{w:Nat}{c:Int}{x:S_api_Node}{y:List Int}(hx:BndX 101 x)(hy:y.length≤101):BndX 101 ⟨c,x.parents,x.rows.set w y⟩:=
 ⟨hx.par,by simpa using hx.rows,fun r hr=>by
  rcases qbS hr with hr | hr
  ·exact hx.row r hr
  rw[hr]; exact hy⟩
theorem zr7{b:S_haruspexref05_Bend}{n:S_api_Net}{x:S_api_Node}{t w:Nat}{row:List Int}(hb:BndK 100 n)(hx:BndX 100 x)(hr:row.length≤100):∀ k,k<12→∃ r,zpJ b n x t w row k=some r∧BndK 101 r:=by
 have hb':=hb.mono (m:=101) (by omega);have hx':=hx.mono (m:=101) (by omega);intro k hk
 match k,hk with
 | 0,_=>exact zdV (b:=b) (t:=t) hb hx 0 (by omega)
 | 1,_=>exact zdV (b:=b) (t:=t) hb hx 1 (by omega)
 | 2,_=>exact zdV (b:=b) (t:=t) hb hx 2 (by omega)
 | 3,_=>exact zdV (b:=b) (t:=t) hb hx 3 (by omega)
 | 4,_=>exact zdV (b:=b) (t:=t) hb hx 4 (by omega)
 | 5,_=>exact⟨_,rfl,hb'.set ⟨hx'.par,by have:=hx.rows; simp; omega,fun r hr=>hx'.row r (qcj hr)⟩⟩
 | 6,_=>
  refine⟨_,rfl,?_⟩;cases row.isEmpty with
  | true=>exact hb'
  | false=>exact hb'.set (hx'.zwu (by simp; omega))
 | 7,_=>exact⟨_,rfl,hb'.set (hx'.zwu (by simp; omega))⟩
 | 8,_=>
  refine⟨_,rfl,?_⟩;cases row.isEmpty with
  | true=>exact hb'
  | false=>exact hb'.set (hx'.zwu (by simp; omega))
 | 9,_=>
  obtain⟨r2,e,h2⟩:=zvc (r:=row) (by omega);refine⟨⟨n.grain,n.nodes.set t ⟨x.card,x.parents,x.rows.set w r2⟩⟩,?_,hb'.set (hx'.zwu (by omega))⟩;show((swL (row.length+2) 0 (w64 ((row.length:Int) - 1)) row).map fun r2=>(⟨n.grain,n.nodes.set t ⟨x.card,x.parents,x.rows.set w r2⟩⟩:S_api_Net))=_;rw[e]; rfl
 | 10,_=>exact zdV (b:=b) (t:=t) hb hx 10 (by omega)
 | 11,_=>exact zdV (b:=b) (t:=t) hb hx 11 (by omega)
theorem zn5{b:S_haruspexref05_Bend}{n:S_api_Net}(h1:0≤b.what∧b.what≤255)(h2:0≤b.at_∧b.at_≤255)(h3:0≤b.row∧b.row≤255)(hb:BndK 100 n):∃ r,zlx b n=some r∧BndK 101 r:=by
 unfold zlx;rw[if_pos ⟨h1,h2,h3,by have:=hb.nodes; simp only[zad]; omega,fun x hx=>((hb.node x hx).mono (by omega)).fit⟩];have hk:=qbF b.what.toNat (show 12 > 0 by decide);generalize b.what.toNat % 12=k at hk ⊢;unfold zts;split
 ·exact⟨_,rfl,hb.mono (by omega)⟩
 rename_i x hx;have hxm:=hb.node x (qaw hx);split
 ·cases hc:decide (5≤k) && decide (k≤9)with
  | true=>exact⟨_,rfl,hb.mono (by omega)⟩
  | false=>
   rw[cond_false];refine zdV hb hxm k ?_;simp at hc;omega
 rename_i row hrow;exact zr7 hb hxm (hxm.row row (qaw hrow)) k hk
theorem NetOk.bnd{num:List Nat}{g:Nat}{ns:List NN}(h:NetOk num g ns):BndK 100 (zb2 g ns):=by
 refine⟨by have:=h.n2; simp[zb2]; omega,fun y hy=>?_⟩;obtain⟨x,hx,rfl⟩:=qaA.1 hy;obtain⟨v,hv,rfl⟩:=qbJ.1 hx;obtain⟨j,hj,hjv⟩:=qbJ.1 (h.perm.all v hv);have hn:=h.node j v ns[v] (by rw[qae hj,hjv]) (qae hv);have h3:=hn.par.len;have hc:=h.card ns[v] hx;have hm:zam (ns[v].ps.map fun p=>(ns.map (·.c)).getD p 0)≤64:=by
  refine qav (zf5 (m:=4) (by omega) fun z hz=>?_) ?_
  ·obtain⟨p,hp,rfl⟩:=qaA.1 hz;by_cases hpl:p<ns.length
   ·have:=h.card ns[p] (qan hpl);simpa [hpl]using this.2
   simp[qbO,show ns[p]? = none from qa7 (by omega)]
  rw[qaD];exact qav (qbk (by decide) h3) (by decide)
 refine⟨by simp[nd,zat]; omega,by show(ns[v].rows.map iL).length≤100; rw[qaD,hn.rows.len]; omega,fun r hr=>?_⟩;obtain⟨zs,hz,rfl⟩:=qaA.1 (show r∈ns[v].rows.map iL from hr);rw[zat,(hn.rows.row zs hz).1]; omega
def upS(ms:List Nat)(s v:Nat):Nat:=if s.testBit v then s ||| ms.getD v 0 else s
def upR(ms:List Nat)(s:Nat):Nat:=(List.range ms.length).foldl (upS ms) s
def EOk(ms:List Nat):Prop:=∀ v p,(ms.getD v 0).testBit p=true→v<ms.length∧p<ms.length
theorem Sub.zxx{a:Nat}:Sub a a:=fun _ h=>h
theorem Sub.tr{a b c:Nat}(h1:Sub a b)(h2:Sub b c):Sub a c:=fun i h=>h2 i (h1 i h)
theorem Sub.zxz{a b:Nat}(h1:Sub a b)(h2:Sub b a):a=b:=by
 apply qcF;intro i;exact Bool.eq_iff_iff.2 ⟨h1 i,h2 i⟩
theorem zp0(ms:List Nat)(s v:Nat):Sub s (upS ms s v):=by
 intro i hi;unfold upS;split
 ·rw[qcA,hi,Bool.true_or]
 exact hi
theorem zjU{f:Nat→Nat→Nat}(h:∀ s v,Sub s (f s v)):∀(vs:List Nat) (s:Nat),Sub s (vs.foldl f s)
 | [],s=>Sub.zxx
 | v :: vs,s=>(h s v).tr (zjU h vs (f s v))
theorem zmN{f:Nat→Nat→Nat}(h:∀ s v,Sub s (f s v)):∀(vs:List Nat) (s:Nat),vs.foldl f s=s→∀ v∈vs,f s v=s
 | [],_,_,_,hv=>nomatch hv
 | v :: vs,s,he,u,hu=>by
  rw[qbW]at he;have h1:f s v=s:=Sub.zxz (by have:=zjU h vs (f s v); rw[he]at this; exact this) (h s v);rw[h1]at he;rcases qaR.1 hu with rfl | hu
  ·exact h1
  exact zmN h vs s he u hu
theorem zjx{f:Nat→Nat→Nat}{P:Nat→Prop}(h:∀ s v,P s→P (f s v)):∀(vs:List Nat) (s:Nat),P s→P (vs.foldl f s)
 | [],_,h0=>h0
 | v :: vs,s,h0=>zjx h vs _ (h s v h0)
theorem zjg{f:Nat→Nat}{P:Nat→Prop}(h:∀ s,P s→P (f s))(s:Nat)(h0:P s):∀ k,P (iter f s k)
 | 0=>h0
 | k+1=>h _ (zjg h s h0 k)
theorem zmO{f:Nat→Nat}(h:∀ s,Sub s (f s))(s:Nat):∀ k,Sub s (iter f s k)
 | 0=>Sub.zxx
 | k+1=>(zmO h s k).tr (h _)
theorem zwo{ms:List Nat}(he:EOk ms){s:Nat}(hs:∀ x,s.testBit x=true→x<ms.length)(i:Nat):(iter (upR ms) s ms.length).testBit i=true↔∃ v,s.testBit v=true∧Reach ms v i:=by
 have hsub:∀ s,Sub s (upR ms s):=fun s=>zjU (zp0 ms) _ s
 have hin:∀ s,(∀ x,s.testBit x=true→x<ms.length)→∀ x,(upR ms s).testBit x=true→x<ms.length:=fun s h=>zjx (P:=fun s=>∀ x,s.testBit x=true→x<ms.length) (fun s v h x hx=>by
  unfold upS at hx;split at hx
  ·rw[qcA]at hx;rcases Bool.or_eq_true_iff.1 hx with hx | hx
   ·exact h x hx
   exact(he v x hx).2
  exact h x hx) _ s h
 have hfix:upR ms (iter (upR ms) s ms.length)=iter (upR ms) s ms.length:=by
  rcases zgI (n:=ms.length) (upR ms) hsub hin ms.length s hs with h | h
  ·exact h
  refine Sub.zxz (fun x hx=>?_) (hsub _);exact ztu h x (hin _ (zjg (P:=fun s=>∀ x,s.testBit x=true→x<ms.length) hin s hs _) x hx)
 have hclo:∀ v,(iter (upR ms) s ms.length).testBit v=true→Sub (ms.getD v 0) (iter (upR ms) s ms.length):=by
  intro v hv p hp;have h1:=zmN (zp0 ms) _ _ hfix v (qbq.2 (he v p hp).1);unfold upS at h1;rw[if_pos hv]at h1;rw[← h1,qcA,hp,Bool.or_true]
 constructor
 ·intro hi;refine zjg (f:=upR ms) (P:=fun t=>∀ i,t.testBit i=true→∃ v,s.testBit v=true∧Reach ms v i) (fun t ht=>?_) s (fun i hi=>⟨i,hi,.refl i⟩) ms.length i hi;refine zjx (P:=fun t=>∀ i,t.testBit i=true→∃ v,s.testBit v=true∧Reach ms v i) (fun t v ht i hi=>?_) _ t ht;unfold upS at hi;split at hi
  ·rename_i hv;rw[qcA]at hi;rcases Bool.or_eq_true_iff.1 hi with hi | hi
   ·exact ht i hi
   obtain⟨u,h1,h2⟩:=ht v hv;exact⟨u,h1,h2.tr (.step hi (.refl i))⟩
  exact ht i hi
 rintro⟨v,h1,h2⟩;exact zr6 h2 (zmO hsub s _ v h1) hclo
theorem zt3{v:Nat}(h:v<64):IntKind.u64.wrap (v:Int)=(v:Int):=zfk (by omega)
theorem zuN{a v:Nat}(ha:a<18446744073709551616)(hv:v<64):zfl (a:Int) (v:Int)=some (a.testBit v):=by
 obtain⟨q,h1,h2⟩:=zxt ha hv;unfold zfl;rw[zt3 hv,h1,qaa,h2];cases a.testBit v<;>rfl
theorem zvd{ms:List Nat}(hm:∀ m∈ms,m<18446744073709551616){s v:Nat}(hs:s<18446744073709551616):upS ms s v<18446744073709551616:=by
 unfold upS;split
 ·exact qbY (n:=64) hs (zmr hm v)
 exact hs
theorem zvE{ms:List Nat}(hn:ms.length≤60)(hm:∀ m∈ms,m<18446744073709551616):∀(k n v s:Nat),v+k=ms.length→s<18446744073709551616→k<n →
  zdM (iL ms) n (s:Int) (v:Int)=some (((List.range' v k).foldl (upS ms) s:Nat):Int)∧(List.range' v k).foldl (upS ms) s<18446744073709551616
 | k,0,_,_,_,_,h=>absurd h (qak _)
 | 0,n+1,v,s,h1,hs,_=>by
  refine⟨?_,hs⟩;unfold zdM;rw[zat,zaq,decide_eq_false (by omega),cond_false];rfl
 | k+1,n+1,v,s,h1,hs,h3=>by
  have hv:v<ms.length:=by omega
  obtain⟨g1,g2⟩:=zvE hn hm k n (v+1) (upS ms s v) (by omega) (zvd hm hs) (by omega);refine⟨?_,g2⟩;unfold zdM;rw[zat,zaq,decide_eq_true hv,cond_true,zuN hs (by omega),qaa,zan (by omega),List.range'_succ,qbW];cases hb:s.testBit v with
  | true=>
   rw[cond_true,ziv hv,qaa,orU hs (zmr hm v),qaa,← g1];unfold upS;rw[if_pos hb]
  | false=>
   rw[cond_false,qaa,← g1];unfold upS;rw[if_neg (by rw[hb]; decide)]
theorem zn1(f:Nat→Nat)(s k:Nat):iter f s (k+1)=iter f (f s) k:=by
 induction k with
 | zero=>rfl
 | succ k ih=>show f (iter f s (k+1))=f (iter f (f s) k); rw[ih]
theorem zvs{ms:List Nat}(hn:ms.length≤60)(hm:∀ m∈ms,m<18446744073709551616):∀(k n v s:Nat),v+k=ms.length→s<18446744073709551616→k<n →
  zdO (iL ms) n (s:Int) (v:Int)=some ((iter (upR ms) s k:Nat):Int)∧iter (upR ms) s k<18446744073709551616
 | k,0,_,_,_,_,h=>absurd h (qak _)
 | 0,n+1,v,s,h1,hs,_=>by
  refine⟨?_,hs⟩;unfold zdO;rw[zat,zaq,decide_eq_false (by omega),cond_false];rfl
 | k+1,n+1,v,s,h1,hs,h3=>by
  have hv:v<ms.length:=by omega
  obtain⟨e1,e2⟩:=zvE hn hm ms.length (ms.length+2) 0 s (by omega) hs (by omega);rw[← List.range_eq_range']at e1 e2;obtain⟨g1,g2⟩:=zvs hn hm k n (v+1) (upR ms s) (by omega) e2 (by omega);rw[zn1];refine⟨?_,g2⟩;unfold zdO;rw[show((0:Nat):Int)=0 from rfl]at e1;rw[zat,zaq,decide_eq_true hv,cond_true,zay,e1,qaa,zan (by omega)];exact g1
theorem zw1{ms:List Nat}{s:Nat}(hn:ms.length≤60)(hm:∀ m∈ms,m<18446744073709551616)(hs:s<18446744073709551616):
  zfS (iL ms) (s:Int)=some ((iter (upR ms) s ms.length:Nat):Int)∧iter (upR ms) s ms.length<18446744073709551616:=by
 obtain⟨e1,e2⟩:=zvs hn hm ms.length (ms.length+2) 0 s (by omega) hs (by omega);refine⟨?_,e2⟩;rw[show((0:Nat):Int)=0 from rfl]at e1;unfold zfS;rw[zat,zay,e1,qaa]
def zmp(ms:List Nat)(v:Nat):Prop:=∀ p,(ms.getD v 0).testBit p=true→¬ Reach ms p v
theorem zuB{ms:List Nat}(hn:ms.length≤60)(hm:∀ m∈ms,m<18446744073709551616)(he:EOk ms):∀(n v:Nat),v≤ms.length→ms.length - v<n →
  ((∀ u,v≤u→u<ms.length→zmp ms u)∧zbz (iL ms) n (v:Int)=some (.go ()))∨((∃ u,u<ms.length∧¬ zmp ms u)∧zbz (iL ms) n (v:Int)=some (.ret false))
 | 0,_,_,h=>absurd h (qak _)
 | n+1,v,h1,h3=>by
  unfold zbz;rw[zat,zaq];by_cases hv:v<ms.length
  ·obtain⟨e1,e2⟩:=zw1 hn hm (zmr hm v);have hb:=zwo he (s:=ms.getD v 0) (fun x hx=>(he v x hx).2) v;rw[decide_eq_true hv,cond_true,ziv hv,qaa,e1,qaa,zuN e2 (by omega),qaa];cases hc:(iter (upR ms) (ms.getD v 0) ms.length).testBit v with
   | true=>
    obtain⟨p,h6,h7⟩:=hb.1 hc;exact .inr ⟨⟨v,hv,fun h=>h p h6 h7⟩,rfl⟩
   | false=>
    have hno:zmp ms v:=fun p h6 h7=>by
     have:=hb.2 ⟨p,h6,h7⟩;rw[hc]at this;cases this
    rw[cond_false,zan (by omega)];rcases zuB hn hm he n (v+1) hv (by omega)with⟨g1,g2⟩| ⟨g1,g2⟩
    ·refine .inl ⟨fun u hu hul=>?_,g2⟩;by_cases huv:u=v
     ·rw[huv]; exact hno
     exact g1 u (by omega) hul
    exact .inr ⟨g1,g2⟩
  rw[decide_eq_false hv,cond_false];exact .inl ⟨fun u h6 h7=>absurd h7 (by omega),rfl⟩
theorem zuz{ms:List Nat}(hn:ms.length≤60)(hm:∀ m∈ms,m<18446744073709551616)(he:EOk ms):
  ((∀ u,u<ms.length→zmp ms u)∧zcd (iL ms)=some true)∨((∃ u,u<ms.length∧¬ zmp ms u)∧zcd (iL ms)=some false):=by
 unfold zcd;rw[zat,zay];rcases zuB hn hm he (ms.length+2) 0 (qau _) (by omega)with⟨g1,g2⟩| ⟨g1,g2⟩
 ·rw[show((0:Nat):Int)=0 from rfl]at g2;rw[g2,qaa];exact .inl ⟨fun u=>g1 u (qau _),rfl⟩
 rw[show((0:Nat):Int)=0 from rfl]at g2;rw[g2,qaa];exact .inr ⟨g1,rfl⟩
structure RN where
 c:Nat
 ps:List Nat
 rows:List (List Int)
def rd(x:RN):S_api_Node:=⟨x.c,iL x.ps,x.rows⟩
def P1(m:Int)(y:S_api_Node):Prop:=(1≤y.card∧y.card≤4)∧zlz m (-1) y.parents
theorem zm4{d:S_api_Net}(hb:Bnd d)(hn:d.nodes.length≤8):∀(n a:Nat) (xs ys:List S_api_Node),xs ++ ys=d.nodes→a≤4 ^ xs.length→ys.length<n →
  ((∀ y∈ys,P1 (d.nodes.length:Int) y)∧zbJ d n (a:Int) (xs.length:Int)=some (.go ((a * zam (ys.map (·.card.toNat)):Nat):Int)))∨
  ((¬ ∀ y∈ys,P1 (d.nodes.length:Int) y)∧zbJ d n (a:Int) (xs.length:Int)=some (.ret false))
 | 0,_,_,_,_,_,h=>absurd h (qak _)
 | n+1,a,xs,[],h1,h2,h3=>by
  unfold zbJ;rw[qaF]at h1;rw[← h1,zaq,decide_eq_false (by omega),cond_false];exact .inl ⟨fun _ h=>(nomatch h),by simp[zam]⟩
 | n+1,a,xs,y :: ys,h1,h2,h3=>by
  unfold zbJ;have hxn:xs.length<d.nodes.length:=by rw[← h1]; simp
  have hy:d.nodes[xs.length]=y:=by simp[← h1]
  have hym:y∈d.nodes:=by rw[← h1]; simp
  rw[zaq,decide_eq_true hxn,cond_true,zaw hxn,qaa,hy];by_cases c1:y.card<1
  ·rw[decide_eq_true c1,cond_true,qaa,cond_true];exact .inr ⟨fun h=>by have:=(h y qat).1.1; omega,rfl⟩
  by_cases c2:4<y.card
  ·rw[decide_eq_false c1,cond_false,decide_eq_true c2,cond_true,qaa,cond_true];exact .inr ⟨fun h=>by have:=(h y qat).1.2; omega,rfl⟩
  obtain⟨b,e,hbb⟩:=zpE (m:=(d.nodes.length:Int)) (hb.node y hym).par;rw[decide_eq_false c1,cond_false,decide_eq_false c2,cond_false,e,qaa,qaa];cases b with
  | false=>
   exact .inr ⟨fun h=>absurd (hbb.2 (h y qat).2) (by decide),rfl⟩
  | true=>
   obtain⟨c,hc⟩:∃ c:Nat,y.card=(c:Int):=⟨y.card.toNat,by omega⟩;have hpw:4 ^ (xs.length+1)≤4 ^ 8:=qbk (by decide) (by omega);have hac:a * c≤4 ^ (xs.length+1):=by rw[Nat.pow_succ]; exact qb3 h2 (by omega)
   rw[qaW,cond_false,hc,← qa8,zaJ (by omega),zan (by omega)];have ih:=zm4 hb hn n (a * c) (xs ++ [y]) ys (by rw[← h1]; simp) (by simpa using hac) (by simp at h3; omega);rw[show(xs ++ [y]).length=xs.length+1 by simp]at ih;rcases ih with⟨g1,g2⟩| ⟨g1,g2⟩
   ·refine .inl ⟨fun z hz=>?_,?_⟩
    ·rcases qaR.1 hz with rfl | hz
     ·exact⟨⟨by omega,by omega⟩,hbb.1 rfl⟩
     exact g1 z hz
    rw[g2,qaE,hc,qaP];show _=some (Out.go (((a * (c * zam (ys.map (·.card.toNat))):Nat):Int)));rw[qbB]
   exact .inr ⟨fun h=>g1 fun z hz=>h z (qar _ hz),g2⟩
theorem zvF{m:Nat}:∀ {ys:List S_api_Node},(∀ y∈ys,P1 (m:Int) y)→∃ rs:List RN,ys=rs.map rd∧∀ x∈rs,(1≤x.c∧x.c≤4)∧x.ps.Pairwise (· < ·)∧∀ p∈x.ps,p<m
 | [],_=>⟨[],rfl,fun _ h=>nomatch h⟩
 | y :: ys,h=>by
  obtain⟨rs,e,h1⟩:=zvF (m:=m) (ys:=ys) fun y hy=>h y (qar _ hy)
  obtain⟨⟨h2,h3⟩,h4⟩:=h y qat;obtain⟨qs,e2,g1,_,g3⟩:=h4.zvO (by omega);refine⟨⟨y.card.toNat,qs,y.rows⟩:: rs,?_,fun x hx=>?_⟩
  ·rw[qaE,← e];congr 1
   obtain⟨c,p,r⟩:=y;simp only at h2 h3 e2;simp only[rd,e2,qbt (show 0≤c by omega)]
  rcases qaR.1 hx with rfl | hx
  ·exact⟨by simp only; omega,g1,g3⟩
  exact h1 x hx
theorem zfh{rs:List RN}{v:Nat}(h:v<rs.length):zaF (rs.map rd) (v:Int)=some (rd rs[v]):=by
 rw[zaw (by simpa using h)]; simp
theorem znI{g:Int}{rs:List RN}{v:Nat}(hv:v<rs.length)(hp:∀ p∈rs[v].ps,p<8)(hl:rs[v].ps.length≤8):∀(n i m:Nat),i≤rs[v].ps.length→m<18446744073709551616→rs[v].ps.length - i<n →
  zbj ⟨g,rs.map rd⟩ (v:Int) n (m:Int) (i:Int)=some (((rs[v].ps.drop i).foldl (fun m p=>m ||| 2 ^ p) m:Nat):Int)
 | 0,_,_,_,_,h=>absurd h (qak _)
 | n+1,i,m,h1,h2,h3=>by
  unfold zbj;simp only[];rw[zfh hv,qaa,show(rd rs[v]).parents=iL rs[v].ps from rfl,zat,zaq];by_cases hi:i<rs[v].ps.length
  ·have h8:=hp _ (qan hi);have hpw:2 ^ rs[v].ps[i]<18446744073709551616:=qbI (n:=64) (by decide) (by omega)
   rw[decide_eq_true hi,cond_true,zbB hi,qaa,zt3 (by omega),zww (by omega),qaa,orU h2 hpw,zan (by omega),znI hv hp hl n (i+1) _ hi (qbY (n:=64) h2 hpw) (by omega),
    qap hi,qbW]
  rw[decide_eq_false hi,cond_false,qaH (by omega)];rfl
def zdf(rs:List RN):List Nat:=rs.map fun x=>zba x.ps
theorem zm8{g:Int}{rs:List RN}(hn:rs.length≤8)(hp:∀ x∈rs,x.ps.length≤8∧∀ p∈x.ps,p<8):∀(n i:Nat),i≤rs.length→rs.length - i<n →
  zbi ⟨g,rs.map rd⟩ n (i:Int) (iL (zdf (rs.take i)))=some (iL (zdf rs))
 | 0,_,_,h=>absurd h (qak _)
 | n+1,i,h1,h3=>by
  unfold zbi;simp only[];rw[qaD,zaq];by_cases hi:i<rs.length
  ·obtain⟨k1,k2⟩:=hp _ (qan hi);have e:=znI (g:=g) hi k2 k1 (rs[i].ps.length+2) 0 0 (qau _) (by decide) (by omega);rw[show((0:Nat):Int)=0 from rfl,qa4]at e
   rw[decide_eq_true hi,cond_true,zfh hi,qbh,show(rd rs[i]).parents.length=rs[i].ps.length by simp[rd,zat],zay,e,qaa,
    show(rs[i].ps.foldl (fun m p=>m ||| 2 ^ p) 0)=zba rs[i].ps from rfl,zdN (by rw[zat]; simp[zdf]; omega),qaa,zan (by omega)]
   have ih:=zm8 (g:=g) hn hp n (i+1) hi (by omega);rw[← ih];congr 1
   rw[List.take_add_one,qae hi];simp only[zdf,iL,Option.toList_some,qbr,qaE,qbu]
  rw[decide_eq_false hi,cond_false,qaN (by omega)]
theorem zsm{g:Int}{rs:List RN}(hn:rs.length≤8)(hp:∀ x∈rs,x.ps.length≤8∧∀ p∈x.ps,p<8):zbV ⟨g,rs.map rd⟩=some (iL (zdf rs)):=by
 have e:=zm8 (g:=g) hn hp (rs.length+2) 0 (qau _) (by omega);rw[show((0:Nat):Int)=0 from rfl,qbj,show iL (zdf [])=[]from rfl]at e;unfold zbV;simp only[];rw[qaD,zay,e,qaa]
theorem zxR{g:Int}{rs:List RN}{v:Nat}(hl:rs.length≤8)(hv:v<rs.length)(hp:Pl rs.length rs[v].ps)(h8:rs[v].ps.length≤8):
  zaE ⟨g,rs.map rd⟩ (v:Int)=some (iL (rs[v].ps.map fun p=>(rs.map (·.c)).getD p 0)):=by
 unfold zaE;rw[zfh hv,qaa,zjz (by simpa using hl),qaa];have hc:(rs.map rd).map (·.card)=iL (rs.map (·.c)):=by simp[iL,rd,qaZ]
 simp only[];rw[hc,show(rd rs[v]).parents=iL rs[v].ps from rfl,ztd (by rw[zat,qaD]; exact hp) h8,qaa];congr 1
 simp only[zl2];simp only[iL,qcI,qaZ]
theorem zmY{g:Nat}{d:S_api_Net}{r:List Int}(hg:d.grain=(g:Int))(hg2:g≤60)(hl:r.length≤1000):∀(n i a:Nat),i≤r.length→a≤60 * i→r.length - i<n →
  (∃ zs:List Nat,r.drop i=iL zs∧(∀ z∈zs,z≤g)∧zb6 r d n (a:Int) (i:Int)=some (.go ((a+zs.sum:Nat):Int)))∨
  ((¬ ∃ zs:List Nat,r.drop i=iL zs∧∀ z∈zs,z≤g)∧zb6 r d n (a:Int) (i:Int)=some (.ret false))
 | 0,_,_,_,_,h=>absurd h (qak _)
 | n+1,i,a,h1,h2,h3=>by
  unfold zb6;by_cases hi:i<r.length
  ·have hd:r.drop i=r[i]:: r.drop (i+1):=qap hi;obtain⟨p,hpp⟩:∃ p,r[i]=p:=⟨_,rfl⟩;rw[zaq,decide_eq_true hi,cond_true,zaw hi,qaa,hd,hpp,hg];by_cases c1:p<0
   ·refine .inr ⟨fun⟨zs,e,_⟩=>?_,by rw[decide_eq_true c1,cond_true,qaa,cond_true]⟩;cases zs with
    | nil=>cases e
    | cons z zs=>simp only[iL,qaE,qcd]at e; omega
   by_cases c2:(g:Int)<p
   ·refine .inr ⟨fun⟨zs,e,hs⟩=>?_,by rw[decide_eq_false c1,cond_false,decide_eq_true c2,qaa,cond_true]⟩;cases zs with
    | nil=>cases e
    | cons z zs=>simp only[iL,qaE,qcd]at e; have:=hs z qat; omega
   obtain⟨q,rfl⟩:∃ q:Nat,p=(q:Int):=⟨p.toNat,by omega⟩;rw[decide_eq_false c1,cond_false,decide_eq_false c2,qaa,cond_false,qaa,← qcc,zaJ (by omega),zan (by omega)];rcases zmY hg hg2 hl n (i+1) (a+q) hi (by omega) (by omega)with⟨zs,e,hs,g3⟩| ⟨g1,g2⟩
   ·refine .inl ⟨q :: zs,by rw[e]; rfl,fun z hz=>?_,by rw[g3,qbC,qbs]⟩;rcases qaR.1 hz with rfl | hz
    ·omega
    exact hs z hz
   refine .inr ⟨fun⟨zs,e,hs⟩=>g1 ?_,g2⟩;cases zs with
   | nil=>cases e
   | cons z zs=>
    simp only[iL,qaE,qcd]at e;exact⟨zs,e.2,fun z hz=>hs z (qar _ hz)⟩
  rw[zaq,decide_eq_false hi,cond_false,qaH (by omega)];exact .inl ⟨[],rfl,fun _ h=>(nomatch h),by simp⟩
theorem zs0:∀ {zs:List Nat} {z:Nat},z∈zs→z≤zs.sum
 | x :: xs,z,h=>by
  rw[qbC];rcases qaR.1 h with rfl | h
  ·omega
  have:=zs0 h; omega
theorem znw{g c:Nat}{d:S_api_Net}{x:S_api_Node}(hg:d.grain=(g:Int))(hg2:g≤60)(hc:x.card=(c:Int))(hb:BndX 1000 x):∀(n i:Nat),i≤x.rows.length→x.rows.length - i<n →
  ((∀ r∈x.rows.drop i,zoy g c r)∧zb4 x d n (i:Int)=some (.go ()))∨((¬ ∀ r∈x.rows.drop i,zoy g c r)∧zb4 x d n (i:Int)=some (.ret false))
 | 0,_,_,h=>absurd h (qak _)
 | n+1,i,h1,h3=>by
  unfold zb4;by_cases hi:i<x.rows.length
  ·have hd:x.rows.drop i=x.rows[i]:: x.rows.drop (i+1):=qap hi;have hrl:=hb.row _ (qan hi);have hrows:=hb.rows;obtain⟨r,hr⟩:∃ r,x.rows[i]=r:=⟨_,rfl⟩;rw[hr]at hrl hd;rw[zaq,decide_eq_true hi,cond_true,zaw hi,qaa,hr,hc,hd];by_cases c1:r.length=c
   ·rw[show(((r.length:Nat):Int)==(c:Int))=true by rw[c1]; simp,cond_true,zay];have e4:=zmY (g:=g) (d:=d) hg hg2 hrl (r.length+2) 0 0 (qau _) (by omega) (by omega);rw[show((0:Nat):Int)=0 from rfl,qa4]at e4;rcases e4 with⟨zs,e,hs,e4⟩| ⟨g1,e4⟩
    ·rw[e4,qaa];simp only[];rw[qaX,hg];by_cases c2:zs.sum=g
     ·have hok:zoy g c r:=⟨zs,e,by rw[← c1,e,zat],c2⟩;rw[show(((zs.sum:Nat):Int)==(g:Int))=true by rw[c2]; simp,cond_true,zan (by omega)];rcases znw hg hg2 hc hb n (i+1) hi (by omega)with⟨g1,g2⟩| ⟨g1,g2⟩
      ·refine .inl ⟨fun z hz=>?_,g2⟩;rcases qaR.1 hz with rfl | hz
       ·exact hok
       exact g1 z hz
      exact .inr ⟨fun h=>g1 fun z hz=>h z (qar _ hz),g2⟩
     rw[show(((zs.sum:Nat):Int)==(g:Int))=false by rw[beq_eq_false_iff_ne]; omega,cond_false];refine .inr ⟨fun h=>?_,rfl⟩;obtain⟨zs',e',_,h7⟩:=h r qat;exact c2 (by rw[zkL (e.symm.trans e'),h7])
    rw[e4,qaa];refine .inr ⟨fun h=>g1 ?_,rfl⟩;obtain⟨zs',e',_,h7⟩:=h r qat;exact⟨zs',e',fun z hz=>by rw[← h7]; exact zs0 hz⟩
   rw[show(((r.length:Nat):Int)==(c:Int))=false by rw[beq_eq_false_iff_ne]; omega,cond_false];refine .inr ⟨fun h=>?_,rfl⟩;obtain⟨zs',e',h6,_⟩:=h r qat;exact c1 (by rw[e',zat,h6])
  rw[zaq,decide_eq_false hi,cond_false,qaH (by omega)];exact .inl ⟨fun _ h=>(nomatch h),rfl⟩
def P2(g:Nat)(cs:List Nat)(x:RN):Prop:=x.rows.length=zam (x.ps.map fun p=>cs.getD p 0)∧∀ r∈x.rows,zoy g x.c r
theorem zny{g:Nat}{rs:List RN}(hg2:g≤60)(hn:rs.length≤8)(hb:∀ x∈rs,BndX 1000 (rd x))(hr:∀ x∈rs,(1≤x.c∧x.c≤4)∧x.ps.Pairwise (· < ·)∧∀ p∈x.ps,p<rs.length):∀(n i:Nat),i≤rs.length→rs.length - i<n →
  ((∀ x∈rs.drop i,P2 g (rs.map (·.c)) x)∧zb8 ⟨(g:Int),rs.map rd⟩ n (i:Int)=some (.go ()))∨((¬ ∀ x∈rs.drop i,P2 g (rs.map (·.c)) x)∧zb8 ⟨(g:Int),rs.map rd⟩ n (i:Int)=some (.ret false))
 | 0,_,_,h=>absurd h (qak _)
 | n+1,i,h1,h3=>by
  unfold zb8;simp only[];rw[qaD,zaq];by_cases hi:i<rs.length
  ·have hd:rs.drop i=rs[i]:: rs.drop (i+1):=qap hi;obtain⟨⟨k1,k2⟩,k3,k4⟩:=hr _ (qan hi);have hbx:=hb _ (qan hi);have hpl:rs[i].ps.length≤8:=by have:=zjY k3 k4; omega
   have hq4:∀ z∈rs[i].ps.map (fun p=>(rs.map (·.c)).getD p 0),1≤z∧z≤4:=fun z hz=>by
    obtain⟨p,hp,rfl⟩:=qaA.1 hz;have h6:=k4 p hp;rw[show(rs.map (·.c)).getD p 0=rs[p].c by simp[h6]];exact(hr _ (qan h6)).1
   rw[decide_eq_true hi,cond_true,zfh hi,qaa,zxR hn hi k4 hpl,qaa,zl0 (fun z hz=>(hq4 z hz).1) (by simpa using hpl) (zjr hq4 (by simpa using hpl)),qaa,hd,
    show(rd rs[i]).rows=rs[i].rows from rfl]
   by_cases c1:rs[i].rows.length=zam (rs[i].ps.map fun p=>(rs.map (·.c)).getD p 0)
   ·rw[show(((rs[i].rows.length:Nat):Int)==((zam (rs[i].ps.map fun p=>(rs.map (·.c)).getD p 0):Nat):Int))=true by rw[c1]; simp,cond_true,zay];have e3:=znw (g:=g) (c:=rs[i].c) (d:=⟨(g:Int),rs.map rd⟩) (x:=rd rs[i]) rfl hg2 rfl hbx ((rd rs[i]).rows.length+2) 0 (qau _) (by omega);rw[show((0:Nat):Int)=0 from rfl,qa4,show(rd rs[i]).rows=rs[i].rows from rfl]at e3;rcases e3 with⟨g1,e3⟩| ⟨g1,e3⟩
    ·rw[e3,qaa];simp only[];rw[zan (by omega)];rcases zny hg2 hn hb hr n (i+1) hi (by omega)with⟨g3,g2⟩| ⟨g3,g2⟩
     ·refine .inl ⟨fun z hz=>?_,g2⟩;rcases qaR.1 hz with rfl | hz
      ·exact⟨c1,g1⟩
      exact g3 z hz
     exact .inr ⟨fun h=>g3 fun z hz=>h z (qar _ hz),g2⟩
    rw[e3,qaa];exact .inr ⟨fun h=>g1 (h _ qat).2,rfl⟩
   rw[show(((rs[i].rows.length:Nat):Int)==((zam (rs[i].ps.map fun p=>(rs.map (·.c)).getD p 0):Nat):Int))=false by rw[beq_eq_false_iff_ne]; omega,cond_false];exact .inr ⟨fun h=>c1 (h _ qat).1,rfl⟩
  rw[decide_eq_false hi,cond_false,qaH (by omega)];exact .inl ⟨fun _ h=>(nomatch h),rfl⟩
def zsM(d:S_api_Net):Prop:=∃ g ns,d=zb2 g ns∧RightN g ns
theorem zvo{g:Nat}{cs:List Nat}:∀ {rs:List RN},(∀ x∈rs,P2 g cs x)→∃ ns:List NN,rs.map rd=ns.map nd∧rs.map (·.c)=ns.map (·.c)∧rs.map (·.ps)=ns.map (·.ps)∧∀ z∈ns,RowsOk g z.c (zam (z.ps.map fun p=>cs.getD p 0)) z.rows
 | [],_=>⟨[],rfl,rfl,rfl,fun _ h=>nomatch h⟩
 | x :: rs,h=>by
  obtain⟨ns,e1,e2,e3,h1⟩:=zvo (g:=g) (cs:=cs) (rs:=rs) fun y hy=>h y (qar _ hy)
  obtain⟨h2,h3⟩:=h x qat;obtain⟨zss,e4,h4⟩:=zhT (p:=fun zs=>zs.length=x.c∧zs.sum=g) (rows:=x.rows) fun r hr=>by
   obtain⟨zs,k1,k2,k3⟩:=h3 r hr;exact⟨zs,k1,k2,k3⟩
  refine⟨⟨x.c,x.ps,zss⟩:: ns,?_,by simp only[qaE,e2],by simp only[qaE,e3],fun z hz=>?_⟩
  ·rw[qaE,qaE,e1];congr 1
   simp only[rd,nd,e4]
  rcases qaR.1 hz with rfl | hz
  ·exact⟨by simp only; rw[← h2,e4,qaD],h4⟩
  exact h1 z hz
theorem zqz{n:Nat}{pss:List (List Nat)}(hl:pss.length=n)(hp:∀ ps∈pss,∀ p∈ps,p<n):EOk (pss.map zba):=by
 intro v p h;by_cases hv:v<pss.length
 ·rw[show(pss.map zba).getD v 0=zba pss[v] by simp[hv],zcK]at h;have:=hp _ (qan hv) p (of_decide_eq_true h);exact⟨by simpa using hv,by simpa [hl]using this⟩
 rw[show(pss.map zba).getD v 0=0 by simp[hv]]at h;simp at h
theorem zsj{ms:List Nat}(hn:ms.length≤8)(hm:∀ m∈ms,m<18446744073709551616)(he:EOk ms)(hno:∀ u,u<ms.length→zmp ms u):∃ os,zcU ms os∧os.length=ms.length:=by
 have step:∀ k,k≤ms.length→∃ os,zcU ms os∧os.length=k:=by
  intro k;induction k with
  | zero=>exact fun _=>⟨[],fun k v hk=>by simp at hk,rfl⟩
  | succ k ih=>
   intro hk;obtain⟨os,h1,h2⟩:=ih (by omega);have:∃ v,v<ms.length∧zgF ms (zba os) v:=qaS fun hn=>by
    obtain⟨v,p,h3,h4,h5⟩:=zmu (ms:=ms) (os:=os) (fun v p h=>(he v p h).2) (by omega) h1.nod fun v hv hr=>hn ⟨v,hv,hr⟩
    exact hno v h3 p h4 h5
   obtain⟨v,hv,hr⟩:=this;obtain⟨u,hu⟩:=znM v hv hr;exact⟨os ++ [u],h1.app hu,by simp[h2]⟩
 exact step ms.length (qal _)
theorem RightN.zwP{g:Nat}{ns:List NN}(h:RightN g ns):∀ u,u<(zax ns).length→zmp (zax ns) u:=by
 obtain⟨rk,hg,_⟩:=h.gok;intro u hu p hp hr;have h1:=zoA (rk:=rk) (fun v p h=>(hg.down v p h).2) hr;have h2:=(hg.down u p hp).2;omega
theorem RightN.p1{g:Nat}{ns:List NN}(h:RightN g ns):∀ y∈ns.map nd,P1 (ns.length:Int) y:=by
 intro y hy;obtain⟨x,hx,rfl⟩:=qaA.1 hy;have hc:=h.card x hx;exact⟨⟨by simp only[nd]; omega,by simp only[nd]; omega⟩,zlz.of (h.inc x hx) (fun q _=>by omega) (h.lt x hx)⟩
theorem zpF{d:S_api_Net}(hb:Bnd d):(zsM d∧zcZ d=some true)∨(¬ zsM d∧zcZ d=some false):=by
 unfold zcZ;by_cases c1:d.grain<1
 ·rw[decide_eq_true c1,cond_true,qaa,cond_true];exact .inr ⟨fun⟨g,ns,e,h⟩=>by subst e; have:=h.g1; simp only[zb2]at c1; omega,rfl⟩
 by_cases c2:60<d.grain
 ·rw[decide_eq_false c1,cond_false,decide_eq_true c2,cond_true,qaa,cond_true];exact .inr ⟨fun⟨g,ns,e,h⟩=>by subst e; have:=h.g2; simp only[zb2]at c2; omega,rfl⟩
 by_cases c3:(d.nodes.length:Int)<1
 ·rw[decide_eq_false c1,cond_false,decide_eq_false c2,cond_false,decide_eq_true c3,cond_true,qaa,cond_true];exact .inr ⟨fun⟨g,ns,e,h⟩=>by subst e; have:=h.n1; simp only[zb2,qaD]at c3; omega,rfl⟩
 by_cases c4:8<(d.nodes.length:Int)
 ·rw[decide_eq_false c1,cond_false,decide_eq_false c2,cond_false,decide_eq_false c3,cond_false,decide_eq_true c4,qaa,cond_true];exact .inr ⟨fun⟨g,ns,e,h⟩=>by subst e; have:=h.n2; simp only[zb2,qaD]at c4; omega,rfl⟩
 rw[decide_eq_false c1,cond_false,decide_eq_false c2,cond_false,decide_eq_false c3,cond_false,decide_eq_false c4,qaa,cond_false,zay];have hn:d.nodes.length≤8:=by omega
 have e1:=zm4 hb hn (d.nodes.length+2) 1 [] d.nodes rfl (by decide) (by omega);rw[qaL,show((0:Nat):Int)=0 from rfl,show((1:Nat):Int)=1 from rfl,qb0]at e1;rcases e1 with⟨g1,e1⟩| ⟨g1,e1⟩
 case inr=>
  rw[e1,qaa];exact .inr ⟨fun⟨g,ns,e,h⟩=>g1 (by subst e; have:=h.p1; simpa [zb2]using this),rfl⟩
 rw[e1,qaa];simp only[];obtain⟨rs,e2,h2⟩:=zvF g1;obtain⟨g,hg⟩:∃ g:Nat,d.grain=(g:Int):=⟨d.grain.toNat,by omega⟩;obtain⟨G,ds⟩:=d;simp only at hg e2;subst hg e2;simp only[qaD]at *;have hcs:(rs.map rd).map (fun y:S_api_Node=>y.card.toNat)=rs.map (·.c):=by simp[rd,qaZ]
 rw[hcs];by_cases c5:(1024:Int)<((zam (rs.map (·.c)):Nat):Int)
 ·rw[decide_eq_true c5,cond_true,qaa,cond_true];refine .inr ⟨fun⟨g',ns,e,h⟩=>?_,rfl⟩;have:rs.map (·.c)=ns.map (·.c):=by
   have h6:=congrArg (fun d:S_api_Net=>d.nodes.map fun y=>y.card.toNat) e;simpa [zb2,rd,nd,qaZ]using h6
  have h7:=h.prod;rw[← this]at h7;omega
 have hp8:∀ x∈rs,x.ps.length≤8∧∀ p∈x.ps,p<8:=fun x hx=>by
  obtain⟨_,k3,k4⟩:=h2 x hx;exact⟨by have:=zjY k3 k4; omega,fun p hp=>by have:=k4 p hp; omega⟩
 have hmm:∀ m∈zdf rs,m<18446744073709551616:=by
  intro m hm;obtain⟨x,hx,rfl⟩:=qaA.1 hm;exact Go.Dc.zeU fun p hp=>by have:=(hp8 x hx).2 p hp; omega
 have hml:(zdf rs).length=rs.length:=by simp[zdf]
 have hmp:zdf rs=(rs.map (·.ps)).map zba:=by simp[zdf,qaZ]
 have heo:EOk (zdf rs):=by
  rw[hmp];refine zqz (n:=rs.length) (by simp) fun ps hps p hp=>?_
  obtain⟨x,hx,rfl⟩:=qaA.1 hps;exact(h2 x hx).2.2 p hp
 rw[decide_eq_false c5,cond_false,zsm (by omega) hp8,qaa];rcases zuz (ms:=zdf rs) (by omega) hmm heo with⟨g3,e3⟩| ⟨g3,e3⟩
 case inr=>
  rw[e3,qaa,qaa,qbp,cond_true];refine .inr ⟨fun⟨g',ns,e,h⟩=>?_,rfl⟩;have:zdf rs=zax ns:=by
   have h6:=congrArg (fun d:S_api_Net=>d.nodes.map fun y=>zba (y.parents.map Int.toNat)) e;simpa [zb2,rd,nd,qaZ,zdf,zax,iL]using h6
  rw[this]at g3;obtain⟨u,hu,hno⟩:=g3;exact hno (h.zwP u hu)
 rw[e3,qaa,qaa,qaW,cond_false];have e4:=zny (g:=g) (rs:=rs) (by omega) (by omega) (fun x hx=>hb.node _ (qaA.2 ⟨x,hx,rfl⟩)) h2 (rs.length+2) 0 (qau _) (by omega);rw[show((0:Nat):Int)=0 from rfl,qa4]at e4;rcases e4 with⟨g4,e4⟩| ⟨g4,e4⟩
 ·rw[e4,qaa];refine .inl ⟨?_,rfl⟩;obtain⟨ns,k1,k2,k3,k4⟩:=zvo g4;have hnl:ns.length=rs.length:=by have:=congrArg List.length k1; simpa using this.symm
  have hmo:zdf rs=zax ns:=by rw[hmp,k3]; simp[zax,qaZ]
  obtain⟨os,o1,o2⟩:=zsj (ms:=zdf rs) (by omega) hmm heo g3;have hz:∀ z∈ns,∃ x∈rs,x.c=z.c∧x.ps=z.ps:=by
   intro z hz;obtain⟨i,hi,rfl⟩:=qbJ.1 hz;refine⟨rs[i]'(by omega),qan _,?_,?_⟩
   ·have:=congrArg (fun l:List Nat=>l[i]?) k2;simpa [hi,show i<rs.length by omega]using this
   have:=congrArg (fun l:List (List Nat)=>l[i]?) k3;simpa [hi,show i<rs.length by omega]using this
  refine⟨g,ns,by rw[k1]; rfl,by omega,by omega,by omega,by omega,fun z hzm=>?_,by rw[← k2]; omega,fun z hzm=>?_,fun z hzm=>?_,fun z hzm=>by rw[← k2]; exact k4 z hzm,?_⟩
  ·obtain⟨x,hx,q1,q2⟩:=hz z hzm;rw[← q1]; exact(h2 x hx).1
  ·obtain⟨x,hx,q1,q2⟩:=hz z hzm;rw[← q2]; exact(h2 x hx).2.1
  ·obtain⟨x,hx,q1,q2⟩:=hz z hzm;rw[← q2,hnl]; exact(h2 x hx).2.2
  refine⟨fun v=>os.idxOf v,fun v=>?_,fun v x hv p hp=>?_⟩
  ·have:=List.idxOf_le_length (a:=v) (l:=os); simp only; omega
  have hvl:=(qac.1 hv).1;refine o1.zwO o2 v p (by omega) ?_;rw[hmo,show(zax ns).getD v 0=zba x.ps by simp[zax,qbO,hv],zcK];exact decide_eq_true hp
 rw[e4,qaa];refine .inr ⟨fun⟨g',ns,e,h⟩=>g4 fun x hx=>?_,rfl⟩;have hgg:(g:Int)=(g':Int):=congrArg S_api_Net.grain e;have hgg:g=g':=by omega
 subst hgg;have hn':rs.map rd=ns.map nd:=congrArg S_api_Net.nodes e;have hcc:rs.map (·.c)=ns.map (·.c):=by
  have h6:=congrArg (fun l:List S_api_Node=>l.map fun y=>y.card.toNat) hn';simpa [rd,nd,qaZ]using h6
 obtain⟨i,hi,rfl⟩:=qbJ.1 hx;have hil:i<ns.length:=by have:=congrArg List.length hn'; simp at this; omega
 have h6:=congrArg (fun l:List S_api_Node=>l[i]?) hn';simp only[qbc,qae hi,qae hil,qaJ,qad]at h6;have q1:rs[i].c=ns[i].c:=by have:=congrArg S_api_Node.card h6; simp only[rd,nd]at this; omega
 have q2:rs[i].ps=ns[i].ps:=zkL (congrArg S_api_Node.parents h6);have q3:rs[i].rows=ns[i].rows.map iL:=congrArg S_api_Node.rows h6;have hro:=h.rows _ (qan hil);refine⟨by rw[q3,qaD,hro.len,q2,hcc],fun r hr=>?_⟩;rw[q3]at hr;obtain⟨zs,hz,rfl⟩:=qaA.1 hr;have:=hro.row zs hz;exact⟨zs,rfl,by rw[q1]; exact this.1,this.2⟩
theorem zsW{xs:List Int}(hl:xs.length≤1000):∀(n i:Nat),i≤xs.length→xs.length - i<n→zc3 xs xs n (i:Int)=some (.go ())
 | 0,_,_,h=>absurd h (qak _)
 | n+1,i,h1,h3=>by
  unfold zc3;rw[zaq];by_cases hi:i<xs.length
  ·rw[decide_eq_true hi,cond_true,zaw hi,qaa,qaa,beq_self_eq_true,cond_true,zan (by omega),zsW hl n (i+1) hi (by omega)]
  rw[decide_eq_false hi,cond_false]
theorem ztX{xs:List Int}(hl:xs.length≤1000):zeg xs xs=some true:=by
 unfold zeg;have e:=zsW hl (xs.length+2) 0 (qau _) (by omega);rw[show((0:Nat):Int)=0 from rfl]at e;rw[beq_self_eq_true,cond_true,zay,e,qaa]
theorem ze5{α:Type}{xs:List α}{k:Nat}:∃ ys:List α,zcX xs 0 (zcA (xs.length:Int) (k:Int))=some ys∧ys.length≤k∧∀ y∈ys,y∈xs:=by
 have hm:zcA (xs.length:Int) (k:Int)=((min xs.length k:Nat):Int):=by unfold zcA; split<;>omega
 refine⟨xs.take (min xs.length k),?_,by simp; omega,fun y hy=>qcj hy⟩;rw[hm,show(0:Int)=((0:Nat):Int)from rfl];unfold zcX;rw[if_pos (by omega)];simp
theorem zsO{rs:List (List Int)}(hl:rs.length≤20):∀(n i:Nat) (acc:List (List Int)),i≤rs.length→acc.length≤i→(∀ r∈acc,r.length≤6)→rs.length - i<n →
  ∃ out,out.length≤20∧(∀ r∈out,r.length≤6)∧zdE rs n (i:Int) acc=some out
 | 0,_,_,_,_,_,h=>absurd h (qak _)
 | n+1,i,acc,h1,h2,h4,h3=>by
  unfold zdE;rw[zaq];by_cases hi:i<rs.length
  ·obtain⟨y,e,hy,_⟩:=ze5 (xs:=rs[i]) (k:=6);rw[show((6:Nat):Int)=6 from rfl]at e
   obtain⟨out,k1,k2,k3⟩:=zsO hl n (i+1) (acc ++ [y]) hi (by simp; omega) (fun r hr=>by
    rcases qbd.1 hr with hr | hr
    ·exact h4 r hr
    rw[qa1.1 hr]; exact hy) (by omega)
   refine⟨out,k1,k2,?_⟩;rw[decide_eq_true hi,cond_true,zaw hi,qaa,e,qaa,zdN (by simp; omega),qaa,zan (by omega),k3]
  exact⟨acc,by omega,h4,by rw[decide_eq_false hi,cond_false]⟩
theorem zs6{xs:List S_api_Node}(hl:xs.length≤9):∀(n i:Nat) (acc:List S_api_Node),i≤xs.length→acc.length≤i→(∀ r∈acc,BndX 100 r)→xs.length - i<n →
  ∃ out,out.length≤9∧(∀ r∈out,BndX 100 r)∧zdD xs n (i:Int) acc=some out
 | 0,_,_,_,_,_,h=>absurd h (qak _)
 | n+1,i,acc,h1,h2,h4,h3=>by
  unfold zdD;rw[zaq];by_cases hi:i<xs.length
  ·obtain⟨y6,e6,hy6,_⟩:=ze5 (xs:=xs[i].parents) (k:=8);obtain⟨y8,e8,hy8,_⟩:=ze5 (xs:=xs[i].rows) (k:=20);rw[show((8:Nat):Int)=8 from rfl]at e6;rw[show((20:Nat):Int)=20 from rfl]at e8;obtain⟨rows,r1,r2,r3⟩:=zsO hy8 (y8.length+2) 0 [] (qau _) (qau _) (fun _ h=>nomatch h) (by omega);rw[show((0:Nat):Int)=0 from rfl]at r3
   obtain⟨out,k1,k2,k3⟩:=zs6 hl n (i+1) (acc ++ [⟨xs[i].card,y6,rows⟩]) hi (by simp; omega) (fun r hr=>by
    rcases qbd.1 hr with hr | hr
    ·exact h4 r hr
    rw[qa1.1 hr]
    exact⟨by simp only; omega,by simp only; omega,fun r hr=>by have:=r2 r hr; omega⟩) (by omega)
   refine⟨out,k1,k2,?_⟩;rw[decide_eq_true hi,cond_true,zaw hi,qaa,e6,qaa,e8,qaa,zay,r3,qaa,zdN (by simp; omega),qaa,zan (by omega),k3]
  exact⟨acc,by omega,h4,by rw[decide_eq_false hi,cond_false]⟩
theorem zuU(d:S_api_Net):∃ r,zeS d=some r∧BndK 100 r:=by
 obtain⟨y,e,hy,_⟩:=ze5 (xs:=d.nodes) (k:=9);rw[show((9:Nat):Int)=9 from rfl]at e;obtain⟨out,k1,k2,k3⟩:=zs6 hy (y.length+2) 0 [] (qau _) (qau _) (fun _ h=>nomatch h) (by omega);rw[show((0:Nat):Int)=0 from rfl]at k3;refine⟨⟨d.grain,out⟩,?_,⟨by simp only; omega,k2⟩⟩;unfold zeS;rw[e,qaa,zay,k3,qaa]
structure BendOk (b:S_haruspexref05_Bend):Prop where
 what:0≤b.what∧b.what≤255
 at_:0≤b.at_∧b.at_≤255
 row:0≤b.row∧b.row≤255
theorem ztw{N:Nat}{raw:S_api_Net}{dr:DraftN}{b:S_haruspexref05_Bend}(hN:1025≤N)(hd:DraftOk dr)(hb:BendOk b):
  ∃ r:A3_S_api_Net,zes N raw (zcn dr) b=some r∧Bnd r.a0∧Bnd r.a1∧Bnd r.a2:=by
 obtain⟨x,e1,h1⟩:=zuU raw;obtain⟨num,ns,h,_,e2⟩:=znt hd hN;have h2:=h.bnd;obtain⟨y,e3,h3⟩:=zn5 hb.what hb.at_ hb.row h2;refine⟨⟨x,zb2 (1+dr.grain % 60) ns,y⟩,?_,h1.mono (by omega),h2.mono (by omega),h3.mono (by omega)⟩;unfold zes;rw[e1,qaa,e2,qaa,qaa];rw[show(⟨((1+dr.grain % 60:Nat):Int),ns.map nd⟩:S_api_Net)=zb2 (1+dr.grain % 60) ns from rfl,e3,qaa]
structure Refused (N:Nat) (d:S_api_Net):Prop where
 par:zfY d=some ([],50)
 ord:zhe d=some ([],50)
 mor:zhQ d=some ([],50)
 bla:∀ v,zgf d v=some (0,50)
 anc:∀ v,zeZ N d v=some (0,50)
 des:∀ v,zeh N d v=some (0,50)
theorem refused{N:Nat}{d:S_api_Net}(h:zaO d=some (zmB,50)):Refused N d:=by
 have t:((50:Int)== 0)=false:=rfl;constructor
 ·unfold zfY; rw[h,qaa]; rfl
 ·unfold zhe; rw[h,qaa]; rfl
 ·unfold zhQ; rw[h,qaa]; simp only[]; rw[t,cond_false]
 ·intro v; unfold zgf; rw[h,qaa]; simp only[]; rw[t,cond_false]
 ·intro v; unfold zeZ; rw[h,qaa]; simp only[]; rw[t,cond_false]
 intro v; unfold zeh; rw[h,qaa]; simp only[]; rw[t,cond_false]
end Go.Dc
