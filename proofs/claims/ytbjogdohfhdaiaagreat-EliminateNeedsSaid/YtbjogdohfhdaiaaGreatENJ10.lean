/-
 Plain laws: what the reference finds right. Conditions: none.
-/
import Derived.Test.YtbjogdohfhdaiaaGreatENJ9
set_option linter.unusedSimpArgs false
set_option linter.unusedVariables false
namespace Go.Dc
open Go Go.Mx Go.Lx
structure RN where
 c:Nat
 ps:List Nat
 rows:List (List Int)
def rd(x:RN):S_api_Node:=⟨x.c,iL x.ps,x.rows⟩
def P1(m:Int)(y:S_api_Node):Prop:=(1<=y.zap/\y.zap<=4)/\znL m (-1) y.parents
theorem zpv{d:S_api_Net}(hb:Bnd d)(hn:d.nodes.length<=8):∀(n a:Nat) (xs ys:List S_api_Node),xs ++ ys=d.nodes->a<=4 ^ xs.length->ys.length<n ->
  ((∀ y∈ys,P1 (d.nodes.length:Int) y)/\zb4 d n (a:Int) (xs.length:Int)=some (.go ((a * zab (ys.map (·.zap.toNat)):Nat):Int)))\/
  ((¬ ∀ y∈ys,P1 (d.nodes.length:Int) y)/\zb4 d n (a:Int) (xs.length:Int)=some (.ret false))
 | 0,_,_,_,_,_,h=>absurd h (qak _)
 | n+1,a,xs,[],h1,h2,h3=>by
  unfold zb4;rw[qaQ]at h1;rw[<- h1,zam,qdC (by omega),qdA];exact .inl ⟨λ_ h=>(nomatch h),by simp[zab]⟩
 | n+1,a,xs,y :: ys,h1,h2,h3=>by
  unfold zb4;have hxn:xs.length<d.nodes.length:=by rw[<- h1]; simp
  have hy:d.nodes[xs.length]=y:=by simp[<- h1]
  have hym:y∈d.nodes:=by rw[<- h1]; simp
  rw[zam,qdB hxn,qdz,zay hxn,qaa,hy];by_cases c1:y.zap<1
  .rw[qdB c1,qdz,qaa,qdz];exact .inr ⟨λh=>by have:=(h y qam).1.1; omega,rfl⟩
  by_cases c2:4<y.zap
  .rw[qdC c1,qdA,qdB c2,qdz,qaa,qdz];exact .inr ⟨λh=>by have:=(h y qam).1.2; omega,rfl⟩
  obtain⟨b,e,hbb⟩:=zsG (m:=(d.nodes.length:Int)) (hb.node y hym).par;rw[qdC c1,qdA,qdC c2,qdA,e,qaa,qaa];cases b with
  | false=>
   exact .inr ⟨λh=>absurd (hbb.2 (h y qam).2) (by decide),rfl⟩
  | true=>
   obtain⟨c,hc⟩:∃ c:Nat,y.zap=(c:Int):=⟨y.zap.toNat,by omega⟩;have hpw:4 ^ (xs.length+1)<=4 ^ 8:=qbV (by decide) (by omega);have hac:a * c<=4 ^ (xs.length+1):=by rw[Nat.pow_succ]; exact qbG h2 (by omega)
   rw[qba,qdA,hc,<- qbo,zaJ (by omega),zah (by omega)];have ih:=zpv hb hn n (a * c) (xs ++ [y]) ys (by rw[<- h1]; simp) (by simpa using hac) (by simp at h3; omega);rw[show(xs ++ [y]).length=xs.length+1 by simp]at ih;rcases ih with⟨g1,g2⟩| ⟨g1,g2⟩
   .refine .inl ⟨λz hz=>?_,?_⟩
    .rcases qax.1 hz with rfl | hz
     .exact⟨⟨by omega,by omega⟩,hbb.1 rfl⟩
     exact g1 z hz
    rw[g2,qaF,hc,qaG];show _=some (Out.go (((a * (c * zab (ys.map (·.zap.toNat))):Nat):Int)));rw[qbd]
   exact .inr ⟨λh=>g1 λz hz=>h z (qai _ hz),g2⟩
theorem zBj{m:Nat}:∀ {ys:List S_api_Node},(∀ y∈ys,P1 (m:Int) y)->∃ rs:List RN,ys=rs.map rd/\∀ x∈rs,(1<=x.c/\x.c<=4)/\x.ps.Pairwise (· < ·)/\∀ p∈x.ps,p<m
 | [],_=>⟨[],rfl,λ_ h=>nomatch h⟩
 | y :: ys,h=>by
  obtain⟨rs,e,h1⟩:=zBj (m:=m) (ys:=ys) λy hy=>h y (qai _ hy)
  obtain⟨⟨h2,h3⟩,h4⟩:=h y qam;obtain⟨qs,e2,g1,_,g3⟩:=h4.zCg (by omega);refine⟨⟨y.zap.toNat,qs,y.rows⟩:: rs,?_,λx hx=>?_⟩
  .rw[qaF,<- e];congr 1
   obtain⟨c,p,r⟩:=y;simp only at h2 h3 e2;simp only[rd,e2,qb0 (show 0<=c by omega)]
  rcases qax.1 hx with rfl | hx
  .exact⟨by simp only; omega,g1,g3⟩
  exact h1 x hx
variable{rs:List RN}{v:Nat}
theorem zf3(h:v<rs.length):zaz (rs.map rd) (v:Int)=some (rd rs[v]):=by
 rw[zay (by simpa using h)]; simp
theorem zpC{g:Int}{rs:List RN}{v:Nat}(hv:v<rs.length)(hp:∀ p∈rs[v].ps,p<8)(hl:rs[v].ps.length<=8):∀(n i m:Nat),i<=rs[v].ps.length->m<18446744073709551616->rs[v].ps.length - i<n ->
  zbw ⟨g,rs.map rd⟩ (v:Int) n (m:Int) (i:Int)=some (((rs[v].ps.drop i).foldl (λm p=>m ||| 2 ^ p) m:Nat):Int)
 | 0,_,_,_,_,h=>absurd h (qak _)
 | n+1,i,m,h1,h2,h3=>by
  unfold zbw;simp only[];rw[zf3 hv,qaa,show(rd rs[v]).parents=iL rs[v].ps from rfl,zak,zam];by_cases hi:i<rs[v].ps.length
  .have h8:=hp _ (qao hi);have hpw:2 ^ rs[v].ps[i]<18446744073709551616:=qa0 (n:=64) (by decide) (by omega)
   rw[qdB hi,qdz,zbf hi,qaa,zwk (by omega),zoy (by omega),qaa,orU h2 hpw,zah (by omega),zpC hv hp hl n (i+1) _ hi (qbc (n:=64) h2 hpw) (by omega),
    qas hi,qb4]
  rw[qdC hi,qdA,qaY (by omega)];rfl
def zdr(rs:List RN):List Nat:=rs.map λx=>zbi x.ps
theorem zqY{g:Int}{rs:List RN}(hn:rs.length<=8)(hp:∀ x∈rs,x.ps.length<=8/\∀ p∈x.ps,p<8):∀(n i:Nat),i<=rs.length->rs.length - i<n ->
  zbx ⟨g,rs.map rd⟩ n (i:Int) (iL (zdr (rs.take i)))=some (iL (zdr rs))
 | 0,_,_,h=>absurd h (qak _)
 | n+1,i,h1,h3=>by
  unfold zbx;simp only[];rw[qay,zam];by_cases hi:i<rs.length
  .obtain⟨k1,k2⟩:=hp _ (qao hi);have e:=zpC (g:=g) hi k2 k1 (rs[i].ps.length+2) 0 0 (qau _) (by decide) (by omega);rw[show((0:Nat):Int)=0 from rfl,qa9]at e
   rw[qdB hi,qdz,zf3 hi,qbg,show(rd rs[i]).parents.length=rs[i].ps.length by simp[rd,zak],zaq,e,qaa,
    show(rs[i].ps.foldl (λm p=>m ||| 2 ^ p) 0)=zbi rs[i].ps from rfl,zdt (by rw[zak]; simp[zdr]; omega),qaa,zah (by omega)]
   have ih:=zqY (g:=g) hn hp n (i+1) hi (by omega);rw[<- ih];congr 1
   rw[List.take_add_one,qac hi];simp only[zdr,iL,Option.toList_some,qbw,qaF,qb9]
  rw[qdC hi,qdA,qaO (by omega)]
theorem zqf{g:Int}{rs:List RN}(hn:rs.length<=8)(hp:∀ x∈rs,x.ps.length<=8/\∀ p∈x.ps,p<8):zbn ⟨g,rs.map rd⟩=some (iL (zdr rs)):=by
 have e:=zqY (g:=g) hn hp (rs.length+2) 0 (qau _) (by omega);rw[show((0:Nat):Int)=0 from rfl,qbt,show iL (zdr [])=[]from rfl]at e;unfold zbn;simp only[];rw[qay,zaq,e,qaa]
theorem zER{g:Int}(hl:rs.length<=8)(hv:v<rs.length)(hp:Pl rs.length rs[v].ps)(h8:rs[v].ps.length<=8):
  zaX ⟨g,rs.map rd⟩ (v:Int)=some (iL (rs[v].ps.map λp=>(rs.map (·.c)).getD p 0)):=by
 unfold zaX;rw[zf3 hv,qaa,zqC (by simpa using hl),qaa];have hc:(rs.map rd).map (·.zap)=iL (rs.map (·.c)):=by simp[iL,rd,qbv]
 simp only[];rw[hc,show(rd rs[v]).parents=iL rs[v].ps from rfl,zBQ (by rw[zak,qay]; exact hp) h8,qaa];congr 1
 simp only[zvf];simp only[iL,qdf,qbv]
theorem zqP{g:Nat}{d:S_api_Net}{r:List Int}(hg:d.grain=(g:Int))(hg2:g<=60)(hl:r.length<=1000):∀(n i a:Nat),i<=r.length->a<=60 * i->r.length - i<n ->
  (∃ zs:List Nat,r.drop i=iL zs/\(∀ z∈zs,z<=g)/\zcu r d n (a:Int) (i:Int)=some (.go ((a+zs.sum:Nat):Int)))\/
  ((¬ ∃ zs:List Nat,r.drop i=iL zs/\∀ z∈zs,z<=g)/\zcu r d n (a:Int) (i:Int)=some (.ret false))
 | 0,_,_,_,_,h=>absurd h (qak _)
 | n+1,i,a,h1,h2,h3=>by
  unfold zcu;by_cases hi:i<r.length
  .have hd:r.drop i=r[i]:: r.drop (i+1):=qas hi;obtain⟨p,hpp⟩:∃ p,r[i]=p:=⟨_,rfl⟩;rw[zam,qdB hi,qdz,zay hi,qaa,hd,hpp,hg];by_cases c1:p<0
   .refine .inr ⟨λ⟨zs,e,_⟩=>?_,by rw[qdB c1,qdz,qaa,qdz]⟩;cases zs with
    | nil=>cases e
    | cons z zs=>simp only[iL,qaF,qcD]at e; omega
   by_cases c2:(g:Int)<p
   .refine .inr ⟨λ⟨zs,e,hs⟩=>?_,by rw[qdC c1,qdA,qdB c2,qaa,qdz]⟩;cases zs with
    | nil=>cases e
    | cons z zs=>simp only[iL,qaF,qcD]at e; have:=hs z qam; omega
   obtain⟨q,rfl⟩:∃ q:Nat,p=(q:Int):=⟨p.toNat,by omega⟩;rw[qdC c1,qdA,qdC c2,qaa,qdA,qaa,<- qcX,zaJ (by omega),zah (by omega)];rcases zqP hg hg2 hl n (i+1) (a+q) hi (by omega) (by omega)with⟨zs,e,hs,g3⟩| ⟨g1,g2⟩
   .refine .inl ⟨q :: zs,by rw[e]; rfl,λz hz=>?_,by rw[g3,qcf,qby]⟩;rcases qax.1 hz with rfl | hz
    .omega
    exact hs z hz
   refine .inr ⟨λ⟨zs,e,hs⟩=>g1 ?_,g2⟩;cases zs with
   | nil=>cases e
   | cons z zs=>
    simp only[iL,qaF,qcD]at e;exact⟨zs,e.2,λz hz=>hs z (qai _ hz)⟩
  rw[zam,qdC hi,qdA,qaY (by omega)];exact .inl ⟨[],rfl,λ_ h=>(nomatch h),by simp⟩
theorem zvj:∀ {zs:List Nat} {z:Nat},z∈zs->z<=zs.sum
 | x :: xs,z,h=>by
  rw[qcf];rcases qax.1 h with rfl | h
  .omega
  have:=zvj h; omega
theorem zqe{g c:Nat}{d:S_api_Net}{x:S_api_Node}(hg:d.grain=(g:Int))(hg2:g<=60)(hc:x.zap=(c:Int))(hb:BndX 1000 x):∀(n i:Nat),i<=x.rows.length->x.rows.length - i<n ->
  ((∀ r∈x.rows.drop i,zq4 g c r)/\zcH x d n (i:Int)=some (.go ()))\/((¬ ∀ r∈x.rows.drop i,zq4 g c r)/\zcH x d n (i:Int)=some (.ret false))
 | 0,_,_,h=>absurd h (qak _)
 | n+1,i,h1,h3=>by
  unfold zcH;by_cases hi:i<x.rows.length
  .have hd:x.rows.drop i=x.rows[i]:: x.rows.drop (i+1):=qas hi;have hrl:=hb.row _ (qao hi);have hrows:=hb.rows;obtain⟨r,hr⟩:∃ r,x.rows[i]=r:=⟨_,rfl⟩;rw[hr]at hrl hd;rw[zam,qdB hi,qdz,zay hi,qaa,hr,hc,hd];by_cases c1:r.length=c
   .rw[show(((r.length:Nat):Int)==(c:Int))=true by rw[c1]; simp,qdz,zaq];have e4:=zqP (g:=g) (d:=d) hg hg2 hrl (r.length+2) 0 0 (qau _) (by omega) (by omega);rw[show((0:Nat):Int)=0 from rfl,qa9]at e4;rcases e4 with⟨zs,e,hs,e4⟩| ⟨g1,e4⟩
    .rw[e4,qaa];simp only[];rw[qaR,hg];by_cases c2:zs.sum=g
     .have hok:zq4 g c r:=⟨zs,e,by rw[<- c1,e,zak],c2⟩;rw[show(((zs.sum:Nat):Int)==(g:Int))=true by rw[c2]; simp,qdz,zah (by omega)];rcases zqe hg hg2 hc hb n (i+1) hi (by omega)with⟨g1,g2⟩| ⟨g1,g2⟩
      .refine .inl ⟨λz hz=>?_,g2⟩;rcases qax.1 hz with rfl | hz
       .exact hok
       exact g1 z hz
      exact .inr ⟨λh=>g1 λz hz=>h z (qai _ hz),g2⟩
     rw[show(((zs.sum:Nat):Int)==(g:Int))=false by rw[qdE]; omega,qdA];refine .inr ⟨λh=>?_,rfl⟩;obtain⟨zs',e',_,h7⟩:=h r qam;exact c2 (by rw[znf (e.symm.trans e'),h7])
    rw[e4,qaa];refine .inr ⟨λh=>g1 ?_,rfl⟩;obtain⟨zs',e',_,h7⟩:=h r qam;exact⟨zs',e',λz hz=>by rw[<- h7]; exact zvj hz⟩
   rw[show(((r.length:Nat):Int)==(c:Int))=false by rw[qdE]; omega,qdA];refine .inr ⟨λh=>?_,rfl⟩;obtain⟨zs',e',h6,_⟩:=h r qam;exact c1 (by rw[e',zak,h6])
  rw[zam,qdC hi,qdA,qaY (by omega)];exact .inl ⟨λ_ h=>(nomatch h),rfl⟩
def P2(g:Nat)(cs:List Nat)(x:RN):Prop:=x.rows.length=zab (x.ps.map λp=>cs.getD p 0)/\∀ r∈x.rows,zq4 g x.c r
theorem zqB{g:Nat}{rs:List RN}(hg2:g<=60)(hn:rs.length<=8)(hb:∀ x∈rs,BndX 1000 (rd x))(hr:∀ x∈rs,(1<=x.c/\x.c<=4)/\x.ps.Pairwise (· < ·)/\∀ p∈x.ps,p<rs.length):∀(n i:Nat),i<=rs.length->rs.length - i<n ->
  ((∀ x∈rs.drop i,P2 g (rs.map (·.c)) x)/\zcC ⟨(g:Int),rs.map rd⟩ n (i:Int)=some (.go ()))\/((¬ ∀ x∈rs.drop i,P2 g (rs.map (·.c)) x)/\zcC ⟨(g:Int),rs.map rd⟩ n (i:Int)=some (.ret false))
 | 0,_,_,h=>absurd h (qak _)
 | n+1,i,h1,h3=>by
  unfold zcC;simp only[];rw[qay,zam];by_cases hi:i<rs.length
  .have hd:rs.drop i=rs[i]:: rs.drop (i+1):=qas hi;obtain⟨⟨k1,k2⟩,k3,k4⟩:=hr _ (qao hi);have hbx:=hb _ (qao hi);have hpl:rs[i].ps.length<=8:=by have:=zhJ k3 k4; omega
   have hq4:∀ z∈rs[i].ps.map (λp=>(rs.map (·.c)).getD p 0),1<=z/\z<=4:=λz hz=>by
    obtain⟨p,hp,rfl⟩:=qaz.1 hz;have h6:=k4 p hp;rw[show(rs.map (·.c)).getD p 0=rs[p].c by simp[h6]];exact(hr _ (qao h6)).1
   rw[qdB hi,qdz,zf3 hi,qaa,zER hn hi k4 hpl,qaa,zt8 (λz hz=>(hq4 z hz).1) (by simpa using hpl) (zoF hq4 (by simpa using hpl)),qaa,hd,
    show(rd rs[i]).rows=rs[i].rows from rfl]
   by_cases c1:rs[i].rows.length=zab (rs[i].ps.map λp=>(rs.map (·.c)).getD p 0)
   .rw[show(((rs[i].rows.length:Nat):Int)==((zab (rs[i].ps.map λp=>(rs.map (·.c)).getD p 0):Nat):Int))=true by rw[c1]; simp,qdz,zaq];have e3:=zqe (g:=g) (c:=rs[i].c) (d:=⟨(g:Int),rs.map rd⟩) (x:=rd rs[i]) rfl hg2 rfl hbx ((rd rs[i]).rows.length+2) 0 (qau _) (by omega);rw[show((0:Nat):Int)=0 from rfl,qa9,show(rd rs[i]).rows=rs[i].rows from rfl]at e3;rcases e3 with⟨g1,e3⟩| ⟨g1,e3⟩
    .rw[e3,qaa];simp only[];rw[zah (by omega)];rcases zqB hg2 hn hb hr n (i+1) hi (by omega)with⟨g3,g2⟩| ⟨g3,g2⟩
     .refine .inl ⟨λz hz=>?_,g2⟩;rcases qax.1 hz with rfl | hz
      .exact⟨c1,g1⟩
      exact g3 z hz
     exact .inr ⟨λh=>g3 λz hz=>h z (qai _ hz),g2⟩
    rw[e3,qaa];exact .inr ⟨λh=>g1 (h _ qam).2,rfl⟩
   rw[show(((rs[i].rows.length:Nat):Int)==((zab (rs[i].ps.map λp=>(rs.map (·.c)).getD p 0):Nat):Int))=false by rw[qdE]; omega,qdA];exact .inr ⟨λh=>c1 (h _ qam).1,rfl⟩
  rw[qdC hi,qdA,qaY (by omega)];exact .inl ⟨λ_ h=>(nomatch h),rfl⟩
def zxM(d:S_api_Net):Prop:=∃ g ns,d=zbF g ns/\RightN g ns
theorem zBZ{g:Nat}{cs:List Nat}:∀ {rs:List RN},(∀ x∈rs,P2 g cs x)->∃ ns:List NN,rs.map rd=ns.map nd/\rs.map (·.c)=ns.map (·.c)/\rs.map (·.ps)=ns.map (·.ps)/\∀ z∈ns,RowsOk g z.c (zab (z.ps.map λp=>cs.getD p 0)) z.rows
 | [],_=>⟨[],rfl,rfl,rfl,λ_ h=>nomatch h⟩
 | x :: rs,h=>by
  obtain⟨ns,e1,e2,e3,h1⟩:=zBZ (g:=g) (cs:=cs) (rs:=rs) λy hy=>h y (qai _ hy)
  obtain⟨h2,h3⟩:=h x qam;obtain⟨zss,e4,h4⟩:=zjm (p:=λzs=>zs.length=x.c/\zs.sum=g) (rows:=x.rows) λr hr=>by
   obtain⟨zs,k1,k2,k3⟩:=h3 r hr;exact⟨zs,k1,k2,k3⟩
  refine⟨⟨x.c,x.ps,zss⟩:: ns,?_,by simp only[qaF,e2],by simp only[qaF,e3],λz hz=>?_⟩
  .rw[qaF,qaF,e1];congr 1
   simp only[rd,nd,e4]
  rcases qax.1 hz with rfl | hz
  .exact⟨by simp only; rw[<- h2,e4,qay],h4⟩
  exact h1 z hz
theorem zmS{n:Nat}{pss:List (List Nat)}(hl:pss.length=n)(hp:∀ ps∈pss,∀ p∈ps,p<n):EOk (pss.map zbi):=by
 intro v p h;by_cases hv:v<pss.length
 .rw[show(pss.map zbi).getD v 0=zbi pss[v] by simp[hv],zcp]at h;have:=hp _ (qao hv) p (qdG h);exact⟨by simpa using hv,by simpa [hl]using this⟩
 rw[show(pss.map zbi).getD v 0=0 by simp[hv]]at h;simp at h
theorem zxa{ms:List Nat}(hn:ms.length<=8)(hm:∀ m∈ms,m<18446744073709551616)(he:EOk ms)(hno:∀ u,u<ms.length->zpq ms u):∃ os,zdq ms os/\os.length=ms.length:=by
 have step:∀ k,k<=ms.length->∃ os,zdq ms os/\os.length=k:=by
  intro k;induction k with
  | zero=>exact λ_=>⟨[],λk v hk=>by simp at hk,rfl⟩
  | succ k ih=>
   intro hk;obtain⟨os,h1,h2⟩:=ih (by omega);have:∃ v,v<ms.length/\zh0 ms (zbi os) v:=qaT λhn=>by
    obtain⟨v,p,h3,h4,h5⟩:=zoh (ms:=ms) (os:=os) (λv p h=>(he v p h).2) (by omega) h1.nod λv hv hr=>hn ⟨v,hv,hr⟩
    exact hno v h3 p h4 h5
   obtain⟨v,hv,hr⟩:=this;obtain⟨u,hu⟩:=zq2 v hv hr;exact⟨os ++ [u],h1.app hu,by simp[h2]⟩
 exact step ms.length (qap _)
variable{g:Nat}{ns:List NN}
theorem RightN.zDD(h:RightN g ns):∀ u,u<(zai ns).length->zpq (zai ns) u:=by
 obtain⟨rk,hg,_⟩:=h.gok;intro u hu p hp hr;have h1:=zrT (rk:=rk) (λv p h=>(hg.down v p h).2) hr;have h2:=(hg.down u p hp).2;omega
theorem RightN.p1{ns:List NN}(h:RightN g ns):∀ y∈ns.map nd,P1 (ns.length:Int) y:=by
 intro y hy;obtain⟨x,hx,rfl⟩:=qaz.1 hy;have hc:=h.zap x hx;exact⟨⟨by simp only[nd]; omega,by simp only[nd]; omega⟩,znL.of (h.inc x hx) (λq _=>by omega) (h.lt x hx)⟩
theorem zuu{d:S_api_Net}(hb:Bnd d):(zxM d/\zcx d=some true)\/(¬ zxM d/\zcx d=some false):=by
 unfold zcx;by_cases c1:d.grain<1
 .rw[qdB c1,qdz,qaa,qdz];exact .inr ⟨λ⟨g,ns,e,h⟩=>by subst e; have:=h.g1; simp only[zbF]at c1; omega,rfl⟩
 by_cases c2:60<d.grain
 .rw[qdC c1,qdA,qdB c2,qdz,qaa,qdz];exact .inr ⟨λ⟨g,ns,e,h⟩=>by subst e; have:=h.g2; simp only[zbF]at c2; omega,rfl⟩
 by_cases c3:(d.nodes.length:Int)<1
 .rw[qdC c1,qdA,qdC c2,qdA,qdB c3,qdz,qaa,qdz];exact .inr ⟨λ⟨g,ns,e,h⟩=>by subst e; have:=h.n1; simp only[zbF,qay]at c3; omega,rfl⟩
 by_cases c4:8<(d.nodes.length:Int)
 .rw[qdC c1,qdA,qdC c2,qdA,qdC c3,qdA,qdB c4,qaa,qdz];exact .inr ⟨λ⟨g,ns,e,h⟩=>by subst e; have:=h.n2; simp only[zbF,qay]at c4; omega,rfl⟩
 rw[qdC c1,qdA,qdC c2,qdA,qdC c3,qdA,qdC c4,qaa,qdA,zaq];have hn:d.nodes.length<=8:=by omega
 have e1:=zpv hb hn (d.nodes.length+2) 1 [] d.nodes rfl (by decide) (by omega);rw[qa7,show((0:Nat):Int)=0 from rfl,show((1:Nat):Int)=1 from rfl,qbl]at e1;rcases e1 with⟨g1,e1⟩| ⟨g1,e1⟩
 case inr=>
  rw[e1,qaa];exact .inr ⟨λ⟨g,ns,e,h⟩=>g1 (by subst e; have:=h.p1; simpa [zbF]using this),rfl⟩
 rw[e1,qaa];simp only[];obtain⟨rs,e2,h2⟩:=zBj g1;obtain⟨g,hg⟩:∃ g:Nat,d.grain=(g:Int):=⟨d.grain.toNat,by omega⟩;obtain⟨G,ds⟩:=d;simp only at hg e2;subst hg e2;simp only[qay]at *;have hcs:(rs.map rd).map (λy:S_api_Node=>y.zap.toNat)=rs.map (·.c):=by simp[rd,qbv]
 rw[hcs];by_cases c5:(1024:Int)<((zab (rs.map (·.c)):Nat):Int)
 .rw[qdB c5,qdz,qaa,qdz];refine .inr ⟨λ⟨g',ns,e,h⟩=>?_,rfl⟩;have:rs.map (·.c)=ns.map (·.c):=by
   have h6:=congrArg (λd:S_api_Net=>d.nodes.map λy=>y.zap.toNat) e;simpa [zbF,rd,nd,qbv]using h6
  have h7:=h.prod;rw[<- this]at h7;omega
 have hp8:∀ x∈rs,x.ps.length<=8/\∀ p∈x.ps,p<8:=λx hx=>by
  obtain⟨_,k3,k4⟩:=h2 x hx;exact⟨by have:=zhJ k3 k4; omega,λp hp=>by have:=k4 p hp; omega⟩
 have hmm:∀ m∈zdr rs,m<18446744073709551616:=by
  intro m hm;obtain⟨x,hx,rfl⟩:=qaz.1 hm;exact Go.Dc.zdX λp hp=>by have:=(hp8 x hx).2 p hp; omega
 have hml:(zdr rs).length=rs.length:=by simp[zdr]
 have hmp:zdr rs=(rs.map (·.ps)).map zbi:=by simp[zdr,qbv]
 have heo:EOk (zdr rs):=by
  rw[hmp];refine zmS (n:=rs.length) (by simp) λps hps p hp=>?_
  obtain⟨x,hx,rfl⟩:=qaz.1 hps;exact(h2 x hx).2.2 p hp
 rw[qdC c5,qdA,zqf (by omega) hp8,qaa];rcases zCf (ms:=zdr rs) (by omega) hmm heo with⟨g3,e3⟩| ⟨g3,e3⟩
 case inr=>
  rw[e3,qaa,qaa,qbK,qdz];refine .inr ⟨λ⟨g',ns,e,h⟩=>?_,rfl⟩;have:zdr rs=zai ns:=by
   have h6:=congrArg (λd:S_api_Net=>d.nodes.map λy=>zbi (y.parents.map Int.toNat)) e;simpa [zbF,rd,nd,qbv,zdr,zai,iL]using h6
  rw[this]at g3;obtain⟨u,hu,hno⟩:=g3;exact hno (h.zDD u hu)
 rw[e3,qaa,qaa,qba,qdA];have e4:=zqB (g:=g) (rs:=rs) (by omega) (by omega) (λx hx=>hb.node _ (qaz.2 ⟨x,hx,rfl⟩)) h2 (rs.length+2) 0 (qau _) (by omega);rw[show((0:Nat):Int)=0 from rfl,qa9]at e4;rcases e4 with⟨g4,e4⟩| ⟨g4,e4⟩
 .rw[e4,qaa];refine .inl ⟨?_,rfl⟩;obtain⟨ns,k1,k2,k3,k4⟩:=zBZ g4;have hnl:ns.length=rs.length:=by have:=congrArg List.length k1; simpa using this.symm
  have hmo:zdr rs=zai ns:=by rw[hmp,k3]; simp[zai,qbv]
  obtain⟨os,o1,o2⟩:=zxa (ms:=zdr rs) (by omega) hmm heo g3;have hz:∀ z∈ns,∃ x∈rs,x.c=z.c/\x.ps=z.ps:=by
   intro z hz;obtain⟨i,hi,rfl⟩:=qbY.1 hz;refine⟨rs[i]'(by omega),qao _,?_,?_⟩
   .have:=congrArg (λl:List Nat=>l[i]?) k2;simpa [hi,show i<rs.length by omega]using this
   have:=congrArg (λl:List (List Nat)=>l[i]?) k3;simpa [hi,show i<rs.length by omega]using this
  refine⟨g,ns,by rw[k1]; rfl,by omega,by omega,by omega,by omega,λz hzm=>?_,by rw[<- k2]; omega,λz hzm=>?_,λz hzm=>?_,λz hzm=>by rw[<- k2]; exact k4 z hzm,?_⟩
  .obtain⟨x,hx,q1,q2⟩:=hz z hzm;rw[<- q1]; exact(h2 x hx).1
  .obtain⟨x,hx,q1,q2⟩:=hz z hzm;rw[<- q2]; exact(h2 x hx).2.1
  .obtain⟨x,hx,q1,q2⟩:=hz z hzm;rw[<- q2,hnl]; exact(h2 x hx).2.2
  refine⟨λv=>os.idxOf v,λv=>?_,λv x hv p hp=>?_⟩
  .have:=List.idxOf_le_length (a:=v) (l:=os); simp only; omega
  have hvl:=(qab.1 hv).1;refine o1.zDC o2 v p (by omega) ?_;rw[hmo,show(zai ns).getD v 0=zbi x.ps by simp[zai,qae,hv],zcp];exact qdB hp
 rw[e4,qaa];refine .inr ⟨λ⟨g',ns,e,h⟩=>g4 λx hx=>?_,rfl⟩;have hgg:(g:Int)=(g':Int):=congrArg S_api_Net.grain e;have hgg:g=g':=by omega
 subst hgg;have hn':rs.map rd=ns.map nd:=congrArg S_api_Net.nodes e;have hcc:rs.map (·.c)=ns.map (·.c):=by
  have h6:=congrArg (λl:List S_api_Node=>l.map λy=>y.zap.toNat) hn';simpa [rd,nd,qbv]using h6
 obtain⟨i,hi,rfl⟩:=qbY.1 hx;have hil:i<ns.length:=by have:=congrArg List.length hn'; simp at this; omega
 have h6:=congrArg (λl:List S_api_Node=>l[i]?) hn';simp only[qaW,qac hi,qac hil,qaU,qad]at h6;have q1:rs[i].c=ns[i].c:=by have:=congrArg S_api_Node.zap h6; simp only[rd,nd]at this; omega
 have q2:rs[i].ps=ns[i].ps:=znf (congrArg S_api_Node.parents h6);have q3:rs[i].rows=ns[i].rows.map iL:=congrArg S_api_Node.rows h6;have hro:=h.rows _ (qao hil);refine⟨by rw[q3,qay,hro.len,q2,hcc],λr hr=>?_⟩;rw[q3]at hr;obtain⟨zs,hz,rfl⟩:=qaz.1 hr;have:=hro.row zs hz;exact⟨zs,rfl,by rw[q1]; exact this.1,this.2⟩
def zjA(ms:List Nat)(a b:Nat):Prop:=(ms.getD a 0).testBit b=true\/(ms.getD b 0).testBit a=true\/∃ u,u<ms.length/\(ms.getD u 0).testBit a=true/\(ms.getD u 0).testBit b=true
theorem zm3{ms:List Nat}{a b:Nat}(hn:ms.length<=60)(hm:∀ m∈ms,m<18446744073709551616)(ha:a<64)(hb:b<64):∀(n v:Nat) (j:Bool),v<=ms.length->ms.length - v<n ->
  ∃ j':Bool,zcz (iL ms) (a:Int) (b:Int) n j (v:Int)=some j'/\(j'=true↔j=true\/∃ u,v<=u/\u<ms.length/\(ms.getD u 0).testBit a=true/\(ms.getD u 0).testBit b=true)
 | 0,_,_,_,h=>absurd h (qak _)
 | n+1,v,j,h1,h3=>by
  unfold zcz;rw[zak,zam];by_cases hv:v<ms.length
  .have hvm:=zcy hm v;have key:∃ j1:Bool,(bif j then some true else((zaz (iL ms) (v:Int)).bind λx16=>(zbk x16 (a:Int)).bind λr18=>bif r18 then((zbk x16 (b:Int)).bind λr21=>some r21)else some false):Option Bool)=some j1 /\
     (j1=true↔j=true\/((ms.getD v 0).testBit a=true/\(ms.getD v 0).testBit b=true)):=by
    cases j with
    | true=>exact⟨true,rfl,by simp⟩
    | false=>
     rw[qdA,zet hv,qaa,zjR hvm ha,qaa];cases h6:(ms.getD v 0).testBit a with
     | false=>exact⟨false,rfl,by simp⟩
     | true=>exact⟨(ms.getD v 0).testBit b,by rw[qdz,zjR hvm hb,qaa],by simp⟩
   obtain⟨j1,e1,h6⟩:=key;obtain⟨j',e2,h7⟩:=zm3 hn hm ha hb n (v+1) j1 hv (by omega);refine⟨j',?_,?_⟩
   .rw[qdB hv,qdz,e1,qaa,zah (by omega),e2]
   rw[h7,h6];constructor
   .rintro((h | h)| ⟨u,h8,h9⟩)
    .exact .inl h
    .exact .inr ⟨v,qap _,hv,h⟩
    exact .inr ⟨u,by omega,h9⟩
   rintro(h | ⟨u,h8,h9,h10⟩)
   .exact .inl (.inl h)
   by_cases huv:u=v
   .subst huv; exact .inl (.inr h10)
   exact .inr ⟨u,by omega,h9,h10⟩
  refine⟨j,by rw[qdC hv,qdA],?_⟩;constructor
  .exact .inl
  rintro(h | ⟨u,h8,h9,_⟩)
  .exact h
  exact absurd h9 (by omega)
theorem zwN{ms:List Nat}{a b:Nat}(hn:ms.length<=60)(hm:∀ m∈ms,m<18446744073709551616)(ha:a<ms.length)(hb:b<ms.length){γ:Type}(K:Bool->Option γ):
  ∃ j:Bool,(j=true↔a≠b/\zjA ms a b)/\
   (((((zaz (iL ms) (a:Int)).bind λx5=>(zbk x5 (b:Int)).bind λr7=>bif r7 then some true else((zaz (iL ms) (b:Int)).bind λx10=>(zbk x10 (a:Int)).bind λr12=>some r12)):Option Bool)).bind λv6=>
    ((zcz (iL ms) (a:Int) (b:Int) (ms.length+2) v6 0:Option Bool)).bind λv6'=>((bif ((a:Int)==(b:Int))then some false else some v6':Option Bool)).bind K)=K j:=by
 have key:∃ j0:Bool,((((zaz (iL ms) (a:Int)).bind λx5=>(zbk x5 (b:Int)).bind λr7=>bif r7 then some true else((zaz (iL ms) (b:Int)).bind λx10=>(zbk x10 (a:Int)).bind λr12=>some r12)):Option Bool))=some j0 /\
   (j0=true↔(ms.getD a 0).testBit b=true\/(ms.getD b 0).testBit a=true):=by
  rw[zet ha,qaa,zjR (zcy hm a) (by omega),qaa];cases h6:(ms.getD a 0).testBit b with
  | true=>exact⟨true,rfl,by simp⟩
  | false=>exact⟨(ms.getD b 0).testBit a,by rw[qdA,zet hb,qaa,zjR (zcy hm b) (by omega),qaa],by simp⟩
 obtain⟨j0,e0,h0⟩:=key;obtain⟨j1,e1,h1⟩:=zm3 hn hm (a:=a) (b:=b) (by omega) (by omega) (ms.length+2) 0 j0 (qau _) (by omega);rw[show((0:Nat):Int)=0 from rfl]at e1;have hj:j1=true↔zjA ms a b:=by
  rw[h1,h0];constructor
  .rintro((h | h)| ⟨u,_,h⟩)
   .exact .inl h
   .exact .inr (.inl h)
   exact .inr (.inr ⟨u,h⟩)
  rintro(h | h | ⟨u,h⟩)
  .exact .inl (.inl h)
  .exact .inl (.inr h)
  exact .inr ⟨u,qau _,h⟩
 by_cases hab:a=b
 .refine⟨false,by simp[hab],?_⟩;rw[e0,qaa,e1,qaa,show((a:Int)==(b:Int))=true by rw[hab]; simp,qdz,qaa]
 refine⟨j1,by rw[hj]; simp[hab],?_⟩;rw[e0,qaa,e1,qaa,show((a:Int)==(b:Int))=false by rw[qdE]; omega,qdA,qaa]
theorem zjz{ms ds0:List Nat}{a:Nat}(hn:ms.length<=60)(hm:∀ m∈ms,m<18446744073709551616)(ha:a<ms.length):∀(n b:Nat) (ds:List Nat),ds.length=ms.length->(∀ d∈ds,d<18446744073709551616)->
  (∀ i j,i<ms.length->((ds.getD i 0).testBit j=true↔(ds0.getD i 0).testBit j=true\/(i=a/\j<b/\a≠j/\zjA ms a j)))->b<=ms.length->ms.length - b<n ->
  ∃ ds',ds'.length=ms.length/\(∀ d∈ds',d<18446744073709551616)/\(∀ i j,i<ms.length->((ds'.getD i 0).testBit j=true↔(ds0.getD i 0).testBit j=true\/(i=a/\j<ms.length/\a≠j/\zjA ms a j)))/\
   zcG (iL ms) (a:Int) n (b:Int) (iL ds)=some (iL ds')
 | 0,_,_,_,_,_,_,h=>absurd h (qak _)
 | n+1,b,ds,h1,h2,h4,h5,h3=>by
  unfold zcG;rw[zak,zam];by_cases hb:b<ms.length
  .obtain⟨j,hj,e⟩:=zwN hn hm ha hb (λv65:Bool=>((bif v65 then((zaz (iL ds) (a:Int)).bind λx25=>(zjl .u64 1 (IntKind.u64.wrap (b:Int))).bind λq27=>(zeU (iL ds) (a:Int) (orI .u64 x25 q27)).bind λy29=>some y29)else some (iL ds):Option (List Int))).bind λl0''=>
    zcG (iL ms) (a:Int) n (w64 ((b:Int)+1)) l0'')
   rw[qdB hb,qdz,zaq,e];cases j with
   | true=>
    have hJ:=hj.1 rfl;have hda:=zcy h2 a;have hpw:2 ^ b<18446744073709551616:=qa0 (n:=64) (by decide) (by omega);have hor:ds.getD a 0 ||| 2 ^ b<18446744073709551616:=qbc (n:=64) hda hpw
    obtain⟨ds',k1,k2,k3,k4⟩:=zjz (ds0:=ds0) hn hm ha n (b+1) (ds.set a (ds.getD a 0 ||| 2 ^ b)) (by simpa using h1) (λd hd=>by
     rcases qbF hd with hd | hd
     .exact h2 d hd
     .rw[hd]; exact hor) (λi j hi=>by
     rw[ziw (by omega)];by_cases hia:a=i
     .subst hia;rw[if_pos rfl,qbj,qbf,qce,h4 a j hi,qdF];constructor
      .rintro((h | ⟨h6,h7,h8⟩)| h)
       .exact .inl h
       .exact .inr ⟨h6,by omega,h8⟩
       subst h; exact .inr ⟨rfl,by omega,hJ⟩
      rintro(h | ⟨h6,h7,h8⟩)
      .exact .inl (.inl h)
      by_cases hjb:b=j
      .exact .inr hjb
      exact .inl (.inr ⟨h6,by omega,h8⟩)
     rw[if_neg hia,h4 i j hi];constructor
     .rintro(h | ⟨h6,_⟩)
      .exact .inl h
      exact absurd h6.symm hia
     rintro(h | ⟨h6,_⟩)
     .exact .inl h
     exact absurd h6.symm hia) hb (by omega)
    refine⟨ds',k1,k2,k3,?_⟩;rw[qdz,zet (by omega),qaa,zwk (by omega),zoy (by omega),qaa,orU hda hpw,zhV (by omega),qaa,qaa,zah (by omega),k4]
   | false=>
    have hJ:¬ (a≠b/\zjA ms a b):=λh=>by have:=hj.2 h; cases this
    obtain⟨ds',k1,k2,k3,k4⟩:=zjz (ds0:=ds0) hn hm ha n (b+1) ds h1 h2 (λi j hi=>by
     rw[h4 i j hi];constructor
     .rintro(h | ⟨h6,h7,h8⟩)
      .exact .inl h
      exact .inr ⟨h6,by omega,h8⟩
     rintro(h | ⟨h6,h7,h8⟩)
     .exact .inl h
     by_cases hjb:b=j
     .subst hjb; exact absurd h8 hJ
     exact .inr ⟨h6,by omega,h8⟩) hb (by omega)
    refine⟨ds',k1,k2,k3,?_⟩;rw[qdA,qaa,zah (by omega),k4]
  refine⟨ds,h1,h2,λi j hi=>?_,by rw[qdC hb,qdA]⟩;rw[h4 i j hi,show b=ms.length by omega]
theorem zmz{ms:List Nat}(hn:ms.length<=60)(hm:∀ m∈ms,m<18446744073709551616):∀(n a:Nat) (ds:List Nat),ds.length=ms.length->(∀ d∈ds,d<18446744073709551616)->
  (∀ i j,i<ms.length->((ds.getD i 0).testBit j=true↔i<a/\j<ms.length/\i≠j/\zjA ms i j))->a<=ms.length->ms.length - a<n ->
  ∃ ds',ds'.length=ms.length/\(∀ d∈ds',d<18446744073709551616)/\(∀ i j,i<ms.length->((ds'.getD i 0).testBit j=true↔j<ms.length/\i≠j/\zjA ms i j))/\zdb (iL ms) n (a:Int) (iL ds)=some (iL ds')
 | 0,_,_,_,_,_,_,h=>absurd h (qak _)
 | n+1,a,ds,h1,h2,h4,h5,h3=>by
  unfold zdb;rw[zak,zam];by_cases ha:a<ms.length
  .obtain⟨d1,g1,g2,g3,g4⟩:=zjz (ds0:=ds) hn hm ha (ms.length+2) 0 ds h1 h2 (λi j hi=>by simp) (qau _) (by omega)
   obtain⟨ds',k1,k2,k3,k4⟩:=zmz hn hm n (a+1) d1 g1 g2 (λi j hi=>by
    rw[g3 i j hi,h4 i j hi];constructor
    .rintro(⟨h6,h7⟩| ⟨h6,h7⟩)
     .exact⟨by omega,h7⟩
     subst h6; exact⟨by omega,h7⟩
    rintro⟨h6,h7⟩;by_cases hia:i=a
    .subst hia; exact .inr ⟨rfl,h7⟩
    exact .inl ⟨by omega,h7⟩) ha (by omega)
   refine⟨ds',k1,k2,k3,?_⟩;rw[show((0:Nat):Int)=0 from rfl]at g4;rw[qdB ha,qdz,zaq,g4,qaa,zah (by omega),k4]
  refine⟨ds,h1,h2,λi j hi=>?_,by rw[qdC ha,qdA]⟩;rw[h4 i j hi];exact⟨λh=>h.2,λh=>⟨by omega,h⟩⟩
theorem zvs{ms ds:List Nat}(hn:ms.length<=60)(hm:∀ m∈ms,m<18446744073709551616)(he:EOk ms)(hd:MoralOk ms ds):zel (iL ms)=some (iL ds):=by
 obtain⟨d1,d2,d3,d4,d5⟩:=zmz hn hm (ms.length+2) 0 (List.replicate ms.length 0) (by simp) (λd hd=>by rw[(qci.1 hd).2]; decide)
  (λi j hi=>by simp[qbT]; split<;>simp) (qau _) (by omega)
 have hz:List.replicate ms.length (0:Int)=iL (List.replicate ms.length 0):=by simp[iL]
 rw[show((0:Nat):Int)=0 from rfl]at d5;have hdd:d1=ds:=by
  apply qcd (by rw[d2,hd.len]);intro i h1 h2;have hi:i<ms.length:=by omega
  apply qbX;intro j;have e1:=d4 i j hi;have e2:=hd.bit i j hi;rw[show d1.getD i 0=d1[i] by simp[h1]]at e1;rw[show ds.getD i 0=ds[i] by simp[h2]]at e2;apply qb8.2;rw[e1,e2];have hf:∀ u k,(zsd ms u).testBit k=true↔(ms.getD u 0).testBit k=true\/u=k:=λu k=>by
   unfold zsd;rw[qbj,qbf,qce,qdF]
  constructor
  .rintro⟨h3,h4,h5⟩;refine⟨h4,?_⟩;rcases h5 with h5 | h5 | ⟨u,h6,h7,h8⟩
   .exact⟨i,hi,(hf _ _).2 (.inr rfl),(hf _ _).2 (.inl h5)⟩
   .exact⟨j,h3,(hf _ _).2 (.inl h5),(hf _ _).2 (.inr rfl)⟩
   exact⟨u,h6,(hf _ _).2 (.inl h7),(hf _ _).2 (.inl h8)⟩
  rintro⟨h3,u,h4,h5,h6⟩;rcases(hf _ _).1 h5 with h5 | h5<;>rcases(hf _ _).1 h6 with h6 | h6
  .exact⟨(he u j h6).2,h3,.inr (.inr ⟨u,h4,h5,h6⟩)⟩
  .subst h6; exact⟨h4,h3,.inr (.inl h5)⟩
  .subst h5; exact⟨(he u j h6).2,h3,.inl h6⟩
  exact absurd (h5.symm.trans h6) h3
 unfold zel;rw[zak,zdh (by omega),qaa,zaq,hz,d5,hdd,qaa]
theorem znT{α:Type}{xs:List α}{k:Nat}:∃ ys:List α,zdS xs 0 (zft (xs.length:Int) (k:Int))=some ys/\ys.length<=k/\∀ y∈ys,y∈xs:=by
 have hm:zft (xs.length:Int) (k:Int)=((min xs.length k:Nat):Int):=by unfold zft; split<;>omega
 refine⟨xs.take (min xs.length k),?_,by simp; omega,λy hy=>qc6 hy⟩;rw[hm,show(0:Int)=((0:Nat):Int)from rfl];unfold zdS;rw[if_pos (by omega)];simp
structure BendOk (b:S_haruspexref05_Bend):Prop where
 what:0<=b.what/\b.what<=255
 at_:0<=b.at_/\b.at_<=255
 row:0<=b.row/\b.row<=255
theorem RightN.eok(h:RightN g ns):EOk (zai ns):=by
 have:zai ns=(ns.map (·.ps)).map zbi:=by simp[zai,qbv]
 rw[this];refine zmS (n:=ns.length) (by simp) λps hps p hp=>?_
 obtain⟨x,hx,rfl⟩:=qaz.1 hps;exact h.lt x hx p hp
def zEo(x:NN):RN:=⟨x.c,x.ps,x.rows.map iL⟩
theorem zyz(g:Nat)(ns:List NN):zbF g ns=⟨(g:Int),(ns.map zEo).map rd⟩:=by
 unfold zbF;rw[qdf];rfl
theorem RightN.zD1(h:RightN g ns):zbn (zbF g ns)=some (iL (zai ns)):=by
 have hn:=h.n2;rw[zyz,zqf (by simpa using hn) λx hx=>?_]
 .simp[zdr,zai,zEo,qbv]
 obtain⟨y,hy,rfl⟩:=qaz.1 hx;exact⟨h.zB9 hy,λp hp=>by have:=h.lt y hy p hp; omega⟩
def zCw:List Nat->Nat->List Nat
 | [],_=>[]
 | c :: cs,w=>(w / zab cs):: zCw cs (w % zab cs)
theorem zq6(c:Nat)(cs:List Nat):zab (c :: cs)=c * zab cs:=rfl
theorem zub:∀ {cs:List Nat} {w:Nat},w<zab cs->∀(i:Nat) (h:i<cs.length),(zCw cs w).getD i 0<cs[i]
 | [],_,_,i,h=>absurd h (qak _)
 | c :: cs,w,hw,i,h=>by
  rw[zq6]at hw;have hp:0<zab cs:=Nat.pos_of_ne_zero λh0=>by rw[h0,Nat.mul_zero]at hw; omega
  cases i with
  | zero=>
   show w / zab cs<c;exact(qds hp).2 hw
  | succ i=>
   show(zCw cs (w % zab cs)).getD i 0<cs[i]'(by simpa using h);exact zub (qbk _ hp) i (by simpa using h)
structure CsOk (cs:List Nat):Prop where
 len:cs.length<=8
 zap:∀ c∈cs,1<=c/\c<=4
 prod:zab cs<=1024
theorem RightN.cs(h:RightN g ns):CsOk (ns.map (·.c)):=by
 refine⟨by have:=h.n2; simpa using this,λc hc=>?_,h.prod⟩;obtain⟨x,hx,rfl⟩:=qaz.1 hc;exact h.zap x hx
def lo(ps:List Nat)(v:Nat):List Nat:=ps.filter λp=>decide (p<v)
def hi(ps:List Nat)(v:Nat):List Nat:=ps.filter λp=>decide (v<p)
def fam(ps:List Nat)(v:Nat):List Nat:=lo ps v ++ v :: hi ps v
variable{ps:List Nat}
theorem zyL{x:Nat}(h:x∈lo ps v):x<v:=qdG (qaM.1 h).2
theorem zzZ{x:Nat}(h:x∈hi ps v):v<x:=qdG (qaM.1 h).2
theorem zzm(h:ps.Pairwise (· < ·))(hv:v ∉ ps):lo ps v ++ hi ps v=ps:=by
 refine zhS (qc5.2 ⟨qbA _ h,qbA _ h,λa ha b hb=>Nat.lt_trans (zyL ha) (zzZ hb)⟩) h λx=>?_
 unfold lo hi;simp only[qa8,qaM,decide_eq_true_eq];constructor
 .rintro(⟨h1,_⟩| ⟨h1,_⟩)<;> exact h1
 intro hx;rcases Nat.lt_trichotomy x v with h1 | h1 | h1
 .exact .inl ⟨hx,h1⟩
 .exact absurd (h1 ▸ hx) hv
 exact .inr ⟨hx,h1⟩
theorem zkZ(h:ps.Pairwise (· < ·)):(fam ps v).Pairwise (· < ·):=by
 refine qc5.2 ⟨qbA _ h,qbp.2 ⟨λa ha=>zzZ ha,qbA _ h⟩,λa ha b hb=>?_⟩;rcases qax.1 hb with rfl | hb
 .exact zyL ha
 exact Nat.lt_trans (zyL ha) (zzZ hb)
variable{u:Nat}
theorem zi2:u∈fam ps v↔u=v\/u∈ps:=by
 unfold fam lo hi;simp only[qa8,qax,qaM,decide_eq_true_eq];constructor
 .rintro(⟨h1,_⟩| h1 | ⟨h1,_⟩)
  .exact .inr h1
  .exact .inl h1
  exact .inr h1
 rintro(h1 | h1)
 .exact .inr (.inl h1)
 rcases Nat.lt_trichotomy u v with h2 | h2 | h2
 .exact .inl ⟨h1,h2⟩
 .exact .inr (.inl h2)
 exact .inr (.inr ⟨h1,h2⟩)
def cd(cs us:List Nat):List Nat:=us.map λp=>cs.getD p 0
structure FacOk (cs:List Nat) (v:Nat) (x:NN):Prop where
 inc:x.ps.Pairwise (· < ·)
 nv:v ∉ x.ps
 lt:∀ p∈x.ps,p<cs.length
 hv:v<cs.length
 cv:cs.getD v 0=x.c
 len:x.rows.length=zab (cd cs x.ps)
 row:∀ r∈x.rows,r.length=x.c
 num:∀ r∈x.rows,∀ w∈r,w<=60
 zap:∀ c∈cs,1<=c/\c<=4
 l8:cs.length<=8
 prod:zab cs<=1024
def ztJ(cs:List Nat)(v:Nat)(x:NN):Nat:=zab (cd cs (lo x.ps v))
def zbd(cs:List Nat)(v:Nat)(x:NN):Nat:=zab (cd cs (hi x.ps v))
def zn8(cs:List Nat)(v:Nat)(x:NN):Fc:=⟨fam x.ps v,cd cs (fam x.ps v),(List.range' 0 (ztJ cs v x * x.c * zbd cs v x)).map (zAv (zbd cs v x) x.c x.rows)⟩
theorem zgH{cs us:List Nat}(h:∀ c∈cs,1<=c/\c<=4)(hu:∀ u∈us,u<cs.length):∀ c∈cd cs us,1<=c/\c<=4:=by
 intro c hc;obtain⟨u,h1,rfl⟩:=qaz.1 hc;have h2:=hu u h1;have:cs.getD u 0=cs[u]:=by rw[qae,qac h2]; rfl
 rw[this];exact h _ (qao h2)
theorem FacOk.flt{cs:List Nat}{v:Nat}{x:NN}(h:FacOk cs v x):∀ u∈fam x.ps v,u<cs.length:=by
 intro u hu;rcases zi2.1 hu with rfl | hu
 .exact h.hv
 exact h.lt u hu
theorem FacOk.fl8{cs:List Nat}{x:NN}(h:FacOk cs v x):(fam x.ps v).length<=8:=qaq (zhJ (zkZ h.inc) h.flt) h.l8
theorem zBt(h:u∈hi ps v):u∈ps:=(qaM.1 h).1
theorem zqx(cs a b:List Nat):cd cs (a ++ b)=cd cs a ++ cd cs b:=qbw
theorem FacOk.cdf{cs:List Nat}{x:NN}(h:FacOk cs v x):cd cs (fam x.ps v)=cd cs (lo x.ps v)++ x.c :: cd cs (hi x.ps v):=by
 unfold fam;rw[zqx];show _ ++ cs.getD v 0 :: _=_;rw[h.cv];rfl
theorem FacOk.size{cs:List Nat}{x:NN}(h:FacOk cs v x):zab (cd cs (fam x.ps v))=ztJ cs v x * x.c * zbd cs v x:=by
 rw[h.cdf,zfa,qbd];rfl
theorem FacOk.zEl{cs:List Nat}{x:NN}(h:FacOk cs v x):x.rows.length=ztJ cs v x * zbd cs v x:=by
 have e:=zzm h.inc h.nv;have e2:cd cs x.ps=cd cs (lo x.ps v)++ cd cs (hi x.ps v):=by rw[<- zqx,e]
 rw[h.len,e2,zfa];rfl
theorem znh{f:Nat->Nat}(p:Nat->Bool):∀ {us:List Nat},(∀ u∈us,1<=f u)->zab ((us.filter p).map f)<=zab (us.map f)
 | [],_=>qap _
 | u :: us,h=>by
  have h1:=h u qam;have h2:=znh p λw hw=>h w (qai u hw)
  have h3:zab ((u :: us).map f)=f u * zab (us.map f):=rfl;rw[List.filter_cons,h3];cases p u with
  | true=>
   rw[if_pos rfl];exact qcq _ h2
  | false=>
   rw[if_neg (by decide)];exact qaq h2 (qcR _ h1)
theorem zpD(cs:List Nat):(List.range cs.length).map (λp=>cs.getD p 0)=cs:=by
 refine qcd (by simp) λi h1 h2=>?_
 rw[qcO,List.getElem_range,qae,qac h2];rfl
theorem zlb{cs us:List Nat}(hc:∀ c∈cs,1<=c)(h:us.Pairwise (· < ·))(hu:∀ u∈us,u<cs.length):zab (cd cs us)<=zab cs:=by
 have e:us=(List.range cs.length).filter (λu=>decide (u∈us)):=zhS h (qbA _ qdn) λx=>by
  simp only[qaM,qbi,decide_eq_true_eq];exact⟨λhx=>⟨hu x hx,hx⟩,λhx=>hx.2⟩
 have k:=znh (f:=λp=>cs.getD p 0) (λu=>decide (u∈us)) (us:=List.range cs.length) λu hx=>by
  have h2:=qbi.1 hx;rw[qae,qac h2];exact hc _ (qao h2)
 rw[<- e,zpD]at k;exact k
theorem FacOk.le{cs:List Nat}{x:NN}(h:FacOk cs v x):ztJ cs v x * x.c * zbd cs v x<=1024:=by
 rw[<- h.size];exact qaq (zlb (λc hc=>(h.zap c hc).1) (zkZ h.inc) h.flt) h.prod
theorem FacOk.B0{cs:List Nat}{x:NN}(h:FacOk cs v x):0<zbd cs v x:=zdQ λc hc=>(zgH h.zap (λu hu=>h.lt u (zBt hu)) c hc).1
theorem FacOk.c1{cs:List Nat}{x:NN}(h:FacOk cs v x):1<=x.c/\x.c<=4:=by
 have:=zgH (us:=[v]) h.zap (λu hu=>by rw[qaL.1 hu]; exact h.hv) (cs.getD v 0) (qaL.2 rfl);rw[h.cv]at this;exact this
theorem RightN.fac(h:RightN g ns){x:NN}(hx:ns[v]? = some x):FacOk (ns.map (·.c)) v x:=by
 obtain⟨hv,ev⟩:=qab.1 hx;have hm:x∈ns:=ev ▸ qao hv;refine⟨h.inc x hm,λhp=>h.ne hx v hp rfl,by simpa using h.lt x hm,by simpa using hv,?_,(h.rows x hm).len,λr hr=>((h.rows x hm).row r hr).1,λr hr w hw=>?_,h.cs.zap,by simpa using h.n2,h.prod⟩
 .rw[qae,qaW,hx];rfl
 have:=zvj hw;have:=((h.rows x hm).row r hr).2;have:=h.g2;omega
def zhG:List Nat->List Nat->(Nat->Nat)->Nat->Nat
 | u :: us,d :: ds,F=>zhG us ds (upd F u d)
 | _,_,F=>F
theorem zpI:∀ {us ds:List Nat} {F:Nat->Nat} {x:Nat},x ∉ us->zhG us ds F x=F x
 | [],_,_,_,_=>by unfold zhG; rfl
 | u :: us,[],_,_,_=>by unfold zhG; rfl
 | u :: us,d :: ds,F,x,h=>by
  unfold zhG;rw[zpI λh1=>h (qai u h1),zjI λe=>h (by rw[e]; exact qam)]
theorem zon:∀ {us ds:List Nat} {F:Nat->Nat} {x:Nat},us.Nodup->us.length=ds.length->x∈us->zhG us ds F x=at_ us ds x
 | [],_,_,_,_,_,h=>by simp at h
 | u :: us,[],_,_,_,h,_=>by simp at h
 | u :: us,d :: ds,F,x,hn,hl,h=>by
  obtain⟨n1,n2⟩:=qbs.1 hn;unfold zhG;rw[ze6];by_cases e:u=x
  .subst e;rw[zpI n1,zfY,qdD,qdz]
  rw[qdI e,qdA];exact zon n2 (by simpa using hl) ((qax.1 h).resolve_left λe2=>e e2.symm)
variable{j:Nat}
theorem zzg{cs:List Nat}{x:NN}(h:FacOk cs v x)(hj:j<ztJ cs v x * x.c * zbd cs v x):dig (cd cs (fam x.ps v)) j=dig (cd cs (lo x.ps v)) (j / (x.c * zbd cs v x))++ j / zbd cs v x % x.c :: dig (cd cs (hi x.ps v)) (j % zbd cs v x):=by
 have hB:=h.B0;have hc:=h.c1;have hp:zab (x.c :: cd cs (hi x.ps v))=x.c * zbd cs v x:=rfl;have hp0:0<x.c * zbd cs v x:=qdc (by omega) hB;rw[h.cdf,zpn _ _ _ (by rw[hp]; exact hp0) (by rw[hp,<- qbd]; exact hj),hp];congr 1
 show j % (x.c * zbd cs v x) / zbd cs v x :: dig (cd cs (hi x.ps v)) (j % (x.c * zbd cs v x) % zbd cs v x)=_;rw[show j % (x.c * zbd cs v x) / zbd cs v x=j / zbd cs v x % x.c by rw[qaX,Nat.mod_mul_right_div_self],Nat.mod_mod_of_dvd _ ⟨x.c,qaX _ _⟩]
theorem zEK{a a' b b':List Nat}{x x':Nat}(h:a ++ x :: b=a' ++ x' :: b')(hl:a.length=a'.length):a=a'/\x=x'/\b=b':=by
 obtain⟨h1,h2⟩:=List.append_inj h hl;obtain⟨h3,h4⟩:=List.cons.inj h2;exact⟨h1,h3,h4⟩
theorem zuW{cs:List Nat}{x:NN}(h:FacOk cs v x){F:Nat->Nat}(hj:j<ztJ cs v x * x.c * zbd cs v x)(e:(fam x.ps v).map F=dig (cd cs (fam x.ps v)) j):F v=j / zbd cs v x % x.c/\x.ps.map F=dig (cd cs x.ps) (j / (x.c * zbd cs v x)* zbd cs v x+j % zbd cs v x):=by
 rw[zzg h hj]at e;unfold fam at e;rw[qbw,qaF]at e;obtain⟨h1,h2,h3⟩:=zEK e (by rw[qay,zfc]; simp[cd]);refine⟨h2,?_⟩;have hB:=h.B0;have hmod:=qbk j hB;have ha:j / (x.c * zbd cs v x)<ztJ cs v x:=qbW (by rw[qaX (x.c * zbd cs v x),<- qbd]; exact hj);have hlt:j / (x.c * zbd cs v x)* zbd cs v x+j % zbd cs v x<ztJ cs v x * zbd cs v x:=by
  have:=qav (zbd cs v x) (show j / (x.c * zbd cs v x)+1<=ztJ cs v x from ha);rw[qaN,qbl]at this;omega
 have hps:cd cs x.ps=cd cs (lo x.ps v)++ cd cs (hi x.ps v):=by rw[<- zqx,zzm h.inc h.nv]
 rw[hps,zpn _ _ _ hB hlt];have d1:(j / (x.c * zbd cs v x)* zbd cs v x+j % zbd cs v x) / zbd cs v x=j / (x.c * zbd cs v x):=by rw[qb2,qcx _ _ hB,qcc hmod,qaR]
 have d2:(j / (x.c * zbd cs v x)* zbd cs v x+j % zbd cs v x) % zbd cs v x=j % zbd cs v x:=by rw[qb2,qbM,Nat.mod_mod]
 show _=dig _ ((j / (x.c * zbd cs v x)* zbd cs v x+j % zbd cs v x) / zbd cs v x)++ dig _ ((j / (x.c * zbd cs v x)* zbd cs v x+j % zbd cs v x) % zbd cs v x);rw[d1,d2,<- h1,<- h3,<- qbw,zzm h.inc h.nv]
theorem zCx{A B c:Nat}(hB:0<B)(hj:j<A * c * B):j / (c * B)* B+j % B<A * B:=by
 have hmod:=qbk j hB;have ha:j / (c * B)<A:=qbW (by rw[qaX (c * B),<- qbd]; exact hj);have:=qav B (show j / (c * B)+1<=A from ha);rw[qaN,qbl]at this;omega
theorem zzF{cs us:List Nat}(h:∀ c∈cs,1<=c/\c<=4)(hu:∀ u∈us,u<cs.length):∀ c∈cd cs us,1<=c/\c<=8:=λc hc=>⟨(zgH h hu c hc).1,qaq (zgH h hu c hc).2 (by decide)⟩
theorem zhQ{α:Type}{xs:List α}{i:Nat}{d:α}:xs.getD i d=d\/xs.getD i d∈xs:=by
 rw[qae];rcases qbh i xs.length with h | h
 .rw[qac h];exact .inr (qao h)
 rw[qaI h];exact .inl rfl
theorem zuw{B c:Nat}{rows:List (List Nat)}(h:∀ r∈rows,∀ w∈r,w<=60)(j:Nat):zAv B c rows j<=60:=by
 unfold zAv;rcases zhQ (xs:=rows) (i:=j / (c * B)* B+j % B) (d:=[])with e | e
 .rw[e]; simp
 rcases zhQ (xs:=rows.getD (j / (c * B)* B+j % B) []) (i:=j / B % c) (d:=0)with e2 | e2
 .rw[e2]; omega
 exact h _ e _ e2
theorem zof{cs:List Nat}{x:NN}(h:FacOk cs v x):FcOk (zn8 cs v x):=by
 have h8:=h.fl8;have hle:=h.le;have hsz:=h.size;refine⟨by simp[zn8,cd],by simp only[zn8,cd,qay]; omega,zzF h.zap h.flt,?_,?_,zkZ h.inc,λu hu=>?_,λw hw=>?_⟩
 .show zab (cd cs (fam x.ps v))<=4096;omega
 .show _=zab (cd cs (fam x.ps v));rw[hsz];simp[zn8]
 .have:=h.flt u hu;have:=h.l8;omega
 obtain⟨j,_,rfl⟩:=qaz.1 hw;have:=zuw (B:=zbd cs v x) (c:=x.c) h.num j;simp only[zdW];omega
def zAs(cs:List Nat)(x:NN)(s:Nat->Nat):Nat:=dot (x.ps.map s) (zaB (cd cs x.ps))
theorem zym{cs:List Nat}{x:NN}(hu:u∈fam x.ps v):at_ (zn8 cs v x).vs (zn8 cs v x).cs u=cs.getD u 0:=zhc (h:=λp=>cs.getD p 0) hu
theorem zvS{cs:List Nat}{v:Nat}{x:NN}(h:FacOk cs v x){s:Nat->Nat}(hs:∀ u∈fam x.ps v,s u<cs.getD u 0):(zn8 cs v x).val s=(x.rows.getD (zAs cs x s) []).getD (s v) 0/\zAs cs x s<x.rows.length:=by
 have hok:=zof h;have hb:zcP (cd cs (fam x.ps v)) ((fam x.ps v).map s):=Fit.below hok (f:=zn8 cs v x) λu hu=>by rw[zym hu]; exact hs u hu
 have hlt:=zkr hb;have hdig:=zl0 hb;have hj:dot ((fam x.ps v).map s) (zaB (cd cs (fam x.ps v)))<ztJ cs v x * x.c * zbd cs v x:=by rw[<- h.size]; exact hlt
 obtain⟨k1,k2⟩:=zuW h (F:=s) hj hdig.symm;have hkl:=zCx h.B0 hj;have hps:zab (cd cs x.ps)=ztJ cs v x * zbd cs v x:=by rw[<- h.len,h.zEl]
 have hr:zAs cs x s=dot ((fam x.ps v).map s) (zaB (cd cs (fam x.ps v))) / (x.c * zbd cs v x)* zbd cs v x+dot ((fam x.ps v).map s) (zaB (cd cs (fam x.ps v))) % zbd cs v x:=by
  unfold zAs;rw[k2,zhX (zzF h.zap h.lt) (by rw[hps]; exact hkl)]
 refine⟨?_,by rw[hr,h.zEl]; exact hkl⟩;show(zn8 cs v x).get (dot ((fam x.ps v).map s) (zaB (cd cs (fam x.ps v))))=_;rw[hr,k1];unfold Fc.get zn8;simp only[];rw[get_map hj];rfl
theorem zwY{cs:List Nat}{x:NN}(h:FacOk cs v x)(i:Nat):(zn8 cs v x).get i<=60:=by
 unfold Fc.get;rcases zhQ (xs:=(zn8 cs v x).ws) (i:=i) (d:=0)with e | e
 .rw[e]; omega
 obtain⟨j,_,e2⟩:=qaz.1 e;rw[<- e2];exact zuw h.num j
theorem zyv(xs:List Nat):big false xs=xs.sum:=by
 induction xs with
 | nil=>rfl
 | cons x xs ih=>rw[zlW,ih]; rfl
theorem NetOk.right{num:List Nat}(h:NetOk num g ns):RightN g ns:=by
 have at_v:∀ v (hv:v<ns.length),∃ j,num[j]? = some v/\NodeOk num g (ns.map (·.c)) j ns[v]:=by
  intro v hv;obtain⟨j,hj,hjv⟩:=qbY.1 (h.perm.all v hv);exact⟨j,by rw[qac hj,hjv],h.node j v ns[v] (by rw[qac hj,hjv]) (qac hv)⟩
 have at_x:∀ x∈ns,∃ j v,num[j]? = some v/\NodeOk num g (ns.map (·.c)) j x:=by
  intro x hx;obtain⟨v,hv,rfl⟩:=qbY.1 hx;obtain⟨j,h1,h2⟩:=at_v v hv;exact⟨j,v,h1,h2⟩
 refine⟨h.g1,h.g2,h.n1,h.n2,h.zap,h.prod,λx hx=>?_,λx hx p hp=>?_,λx hx=>?_,?_⟩
 .obtain⟨j,v,_,h2⟩:=at_x x hx;exact h2.par.inc
 .obtain⟨j,v,_,h2⟩:=at_x x hx;have:=h2.par.lt p hp;simpa using this
 .obtain⟨j,v,_,h2⟩:=at_x x hx;exact h2.rows
 refine⟨λv=>min (num.idxOf v) 8,λv=>qcM _ _,λv x hx p hp=>?_⟩;obtain⟨hv,rfl⟩:=qab.1 hx;obtain⟨j,h1,h2⟩:=at_v v hv;have hin:=h2.par.mem p hp;obtain⟨hj,ej⟩:=qab.1 h1;obtain⟨k,hk,ek0⟩:=hin;obtain⟨hk2,ek⟩:=qab.1 ek0;have i1:num.idxOf v=j:=by rw[<- ej]; exact h.perm.nod.idxOf_getElem j hj
 have i2:num.idxOf p=k:=by rw[<- ek]; exact h.perm.nod.idxOf_getElem k hk2
 have hn:=h.perm.len;have hn8:=h.n2;simp only[i1,i2];omega
theorem zqO:∀(cs:List Nat),(∀ c∈cs,1<=c)->dot (cs.map (· - 1)) (zaB cs)+1=zab cs
 | [],_=>rfl
 | c :: cs,h=>by
  have ih:=zqO cs λd hd=>h d (qai c hd)
  have hc:=h c qam;show(c - 1)* zab cs+dot (cs.map (· - 1)) (zaB cs)+1=c * zab cs;have:c * zab cs=(c - 1)* zab cs+zab cs:=by
   conv=>lhs; rw[show c=(c - 1)+1 by omega,qaN,qbl]
  omega
def zjU(cs:List Nat)(us:List Nat)(s:Nat->Nat)(u:Nat):Nat:=bif decide (u∈us)then cs.getD u 0 - 1 else s u
structure Fixd (cs:List Nat) (v:Nat) (x:NN) (i:Nat) (f:Fc):Prop where
 ok:FcOk f
 vs:f.vs=(fam x.ps v).filter λu=>!decide (u∈x.ps.take i)
 cs_:f.cs=cd cs f.vs
 val:∀ s,(∀ u∈f.vs,s u<cs.getD u 0)->f.val s=(zn8 cs v x).val (zjU cs (x.ps.take i) s)
theorem Fixd.zero{cs:List Nat}{x:NN}(h:FacOk cs v x):Fixd cs v x 0 (zn8 cs v x):=by
 refine⟨zof h,?_,rfl,λs _=>?_⟩
 .rw[qbt];exact(List.filter_eq_self.2 λu _=>by simp).symm
 refine val_congr λu _=>?_
 unfold zjU;rw[qbt,qdC (by simp),qdA]
theorem zkH{cs:List Nat}(h:∀ c∈cs,1<=c/\c<=4)(hu:u<cs.length):1<=cs.getD u 0/\cs.getD u 0<=4:=zgH (us:=[u]) h (λw hw=>by rw[qaL.1 hw]; exact hu) _ (qaL.2 rfl)
theorem Fixd.next{cs:List Nat}{x:NN}(h:FacOk cs v x){i:Nat}{f:Fc}(hf:Fixd cs v x i f)(hi:i<x.ps.length):∃ f',Fixd cs v x (i+1) f'/\zes f.D ((x.ps[i]:Nat):Int) (((cs.getD x.ps[i] 0 - 1:Nat):Nat):Int)=some (f'.D,0):=by
 have hnd:=zbc h.inc;have hp:=h.lt _ (qao hi);have hc:=zkH h.zap hp;have e:x.ps.take i ++ x.ps[i]:: x.ps.drop (i+1)=x.ps:=by rw[<- qas hi,qb1]
 have hnd2:(x.ps.take i ++ x.ps[i]:: x.ps.drop (i+1)).Nodup:=by rw[e]; exact hnd
 obtain⟨_,_,n3⟩:=List.nodup_append.1 hnd2;have hnt:x.ps[i] ∉ x.ps.take i:=λhm=>n3 _ hm _ qam rfl
 clear e hnd2 n3;have hmt:∀ u,u∈x.ps.take (i+1)↔u∈x.ps.take i\/u=x.ps[i]:=λu=>by rw[qcA hi,qa8,qaL]
 have hm:x.ps[i]∈f.vs:=by
  rw[hf.vs,qaM];exact⟨zi2.2 (.inr (qao hi)),by rw[qdC hnt]; rfl⟩
 obtain⟨k,hk⟩:=zl5 hm;obtain⟨hk1,hk2⟩:=zdm hk;have hkc:k<f.cs.length:=by rw[<- hf.ok.len]; exact hk1
 have hck:f.cs[k]=cs.getD x.ps[i] 0:=by
  rw[<- zlg hf.ok hk hkc,hf.cs_];exact zhc hm
 have hlt:cs.getD x.ps[i] 0 - 1<f.cs[k]:=by rw[hck]; omega
 refine⟨fixF f x.ps[i] k (cs.getD x.ps[i] 0 - 1),⟨zyi hf.ok hk hkc _,?_,?_,λs hs=>?_⟩,zyr hf.ok hk hkc hlt⟩
 .show rest f x.ps[i]=_;unfold rest;rw[hf.vs,List.filter_filter];refine List.filter_congr λu hu=>?_
  rw[qb8];simp only[qag,qbC,qdE,ne_eq,qdJ,hmt,not_or];constructor<;>rintro⟨a,b⟩<;> exact⟨b,a⟩
 .show f.cs.eraseIdx k=cd cs (rest f x.ps[i]);rw[zjw hf.ok hk,hf.cs_];unfold cd;rw[zfB]
 have hs':∀ u∈rest f x.ps[i],s u<at_ f.vs f.cs u:=by
  intro u hu;have h1:=hs u hu;have h2:u∈f.vs:=(qaM.1 hu).1;rw[hf.cs_];rw[show at_ f.vs (cd cs f.vs) u=cs.getD u 0 from zhc h2];exact h1
 rw[zi8 hf.ok hk hkc hlt hs',hf.val _ λu hu=>?_]
 .refine val_congr λu _=>?_
  unfold zjU;by_cases e:u=x.ps[i]
  .subst e;rw[qdC hnt,qdA,zfY,qdB ((hmt _).2 (.inr rfl)),qdz]
  rw[zjI e];by_cases e2:u∈x.ps.take i
  .rw[qdB e2,qdz,qdB ((hmt _).2 (.inl e2)),qdz]
  rw[qdC e2,qdA,qdC (λh3=>((hmt _).1 h3).elim e2 e),qdA]
 by_cases e:u=x.ps[i]
 .subst e; rw[zfY]; omega
 rw[zjI e];refine hs u ?_;show u∈rest f x.ps[i];exact qaM.2 ⟨hu,by rw[qdI e]; rfl⟩
theorem zn6{xs:List Nat}(h:j<xs.length):xs[j]=xs.getD j 0:=by
 rw[qae,qac h];rfl
theorem Fixd.last{cs:List Nat}{x:NN}(h:FacOk cs v x){f:Fc}(hf:Fixd cs v x x.ps.length f):f.ws=x.rows.getD (x.rows.length - 1) []:=by
 have hvs:f.vs=[v]:=by
  rw[hf.vs,qcl];refine zhS (qbA _ (zkZ h.inc)) (by simp) λu=>?_
  simp only[qaM,zi2,qbC,qdJ,qaL];constructor
  .rintro⟨h1 | h1,h2⟩
   .exact h1
   exact absurd h1 h2
  rintro rfl;exact⟨.inl rfl,h.nv⟩
 have hcs:f.cs=[x.c]:=by rw[hf.cs_,hvs]; show [cs.getD v 0]=_; rw[h.cv]
 have hc1:=h.c1;have hsz:=hf.ok.size;have hp1:zab f.cs=x.c:=by rw[hcs]; simp[zab]
 have h1:1<=x.rows.length:=by rw[h.len]; exact zdQ λc hc=>(zgH h.zap h.lt c hc).1
 have hrl:(x.rows.getD (x.rows.length - 1) []).length=x.c:=by
  rw[qae,qac (by omega)];exact h.row _ (qao _)
 refine qcd (by rw[hsz,hp1,hrl]) λj a b=>?_
 have hj:j<zab f.cs:=by rw[<- hsz]; exact a
 have hjc:j<x.c:=by rw[<- hp1]; exact hj
 have e1:=zsC hf.ok hj;have hat:at_ f.vs (dig f.cs j) v=j:=by
  rw[hvs,hcs];simp[dig,at_,zab]
 rw[hf.val _ λu hu=>?_]at e1
 .have hfit:∀ u∈fam x.ps v,zjU cs (x.ps.take x.ps.length) (at_ f.vs (dig f.cs j)) u<cs.getD u 0:=by
   intro u hu;unfold zjU;rw[qcl];by_cases e:u∈x.ps
   .have:=(zkH h.zap (h.lt u e)).1;rw[qdB e,qdz]; omega
   have:u=v:=(zi2.1 hu).resolve_right e;subst this;rw[qdC e,qdA,hat,h.cv];exact hjc
  obtain⟨k1,k2⟩:=zvS h hfit;have k3:zAs cs x (zjU cs (x.ps.take x.ps.length) (at_ f.vs (dig f.cs j)))=x.rows.length - 1:=by
   unfold zAs;have:x.ps.map (zjU cs (x.ps.take x.ps.length) (at_ f.vs (dig f.cs j)))=(cd cs x.ps).map (· - 1):=by
    unfold cd;rw[qdf];refine qbx λu hu=>?_
    unfold zjU;rw[qcl,qdB hu,qdz];rfl
   rw[this];have:=zqO (cd cs x.ps) λc hc=>(zgH h.zap h.lt c hc).1
   rw[h.len];omega
  have k4:zjU cs (x.ps.take x.ps.length) (at_ f.vs (dig f.cs j)) v=j:=by
   unfold zjU;rw[qcl,qdC h.nv,qdA,hat]
  rw[k1,k3,k4]at e1;unfold Fc.get at e1;rw[zn6 a,zn6 b];exact e1.symm
 rw[hvs]at hu;rw[qaL.1 hu,hat,h.cv];exact hjc
end Go.Dc
namespace Go.Dc
open Go Go.Mx Go.Lx
def zr7:Nat->(Nat->Nat)->Nat
 | 0,_=>0
 | n+1,f=>zr7 n f+f n
theorem zkE{f g:Nat->Nat}:∀ {n:Nat},(∀ x,x<n->f x=g x)->zr7 n f=zr7 n g
 | 0,_=>rfl
 | n+1,h=>by
  unfold zr7;rw[zkE (n:=n) λx hx=>h x (by omega),h n (by omega)]
theorem zq1{a:Nat}{f:Nat->Nat}:∀ n:Nat,zr7 n (λx=>a * f x)=a * zr7 n f
 | 0=>rfl
 | n+1=>by
  show zr7 n (λx=>a * f x)+a * f n=a * (zr7 n f+f n);rw[zq1 n,Nat.mul_add]
theorem zmr(f:Nat->Nat):∀ n:Nat,zr7 n f=((List.range' 0 n).map f).sum
 | 0=>rfl
 | n+1=>by
  rw[List.range'_concat];unfold zr7;rw[zmr f n];simp
theorem zrS{a b:List Nat}(h:a.Perm b):zab a=zab b:=by
 induction h with
 | nil=>rfl
 | cons x _ ih=>show x * zab _=x * zab _; rw[ih]
 | swap x y l=>
  show y * (x * zab l)=x * (y * zab l);rw[<- qbd,<- qbd,qaX y x]
 | trans _ _ ih1 ih2=>rw[ih1,ih2]
abbrev zhA:NN:=⟨0,[],[]⟩
def wtO(ns:List NN)(L:List Nat)(s:Nat->Nat):Nat:=zab (L.map λv=>(zn8 (ns.map (·.c)) v (ns.getD v zhA)).val s)
theorem zuL{α:Type}{xs:List α}{i:Nat}{d:α}(h:i<xs.length):xs.getD i d∈xs:=by
 rw[qae,qac h];exact qao h
variable{ns:List NN}{v:Nat}
theorem zw3(h:v<ns.length):ns[v]? = some (ns.getD v zhA):=by
 rw[qae,qac h];rfl
structure NCs (cs:List Nat):Prop where
 zap:∀ c∈cs,1<=c/\c<=4
 l8:cs.length<=8
 prod:zab cs<=1024
structure Stc (cs:List Nat) (f:Fc) (M:Nat):Prop where
 ok:FcOk f
 cs_:f.cs=cd cs f.vs
 var:∀ v∈f.vs,v<cs.length
 le:∀ i,f.get i<=M
theorem NCs.vars{cs vs:List Nat}(h:NCs cs)(hi:vs.Pairwise (· < ·))(hv:∀ v∈vs,v<cs.length):zab (cd cs vs)<=1024/\vs.length<=8/\(∀ c∈cd cs vs,1<=c/\c<=8)/\zcs (iL (cd cs vs))=true:=by
 have h1:=qaq (zlb (λc hc=>(h.zap c hc).1) hi hv) h.prod;have h2:=qaq (zhJ hi hv) h.l8;have h3:=zzF h.zap hv;refine⟨h1,h2,h3,?_⟩;unfold zcs;rw[zak,show(cd cs vs).length=vs.length by simp[cd],qdB (by omega),qbS];exact zhl h3 (by omega)
variable{f:Fc}{M:Nat}
theorem Stc.at{cs:List Nat}(h:Stc cs f M)(hv:v∈f.vs):at_ f.vs f.cs v=cs.getD v 0:=by
 rw[h.cs_];exact zhc (h:=λp=>cs.getD p 0) hv
variable{g:Fc}{N:Nat}
theorem Stc.agr{cs:List Nat}(hf:Stc cs f M)(hg:Stc cs g N):Agr f g:=λv h1 h2=>by rw[hf.at h1,hg.at h2]
theorem Stc.ucs{cs:List Nat}(hf:Stc cs f M)(hg:Stc cs g N):ucs f g=cd cs (uni f g):=by
 refine qbx λv hv=>?_
 rcases(zgD hf.ok hg.ok).1 hv with h | h
 .rw[zEr h,hf.at h]
 rw[zEk (hf.agr hg) h,hg.at h]
theorem Stc.uv{cs:List Nat}{f g:Fc}(hf:Stc cs f M)(hg:Stc cs g N):∀ v∈uni f g,v<cs.length:=λv hv=>((zgD hf.ok hg.ok).1 hv).elim (hf.var v) (hg.var v)
theorem Stc.zaK{cs:List Nat}(hc:NCs cs)(hf:Stc cs f M)(hg:Stc cs g N):zcs (iL (Go.Dc.ucs f g))=true:=by
 rw[hf.ucs hg];exact(hc.vars (zkU f g) (hf.uv hg)).2.2.2
theorem Stc.zoi{cs:List Nat}(hf:Stc cs f M)(hg:Stc cs g N)(hB:M * N<=zdW):Go.Dc.zoi f g=true:=
 qbN.2 λj _=>qdB (qaq (qbG (hf.le _) (hg.le _)) hB)
theorem Stc.mul{cs:List Nat}(hc:NCs cs)(hf:Stc cs f M)(hg:Stc cs g N)(hB:M * N<=zdW):Stc cs (zr8 f g) (M * N):=by
 refine⟨zue hf.ok hg.ok (hf.zaK hc hg) (hf.zoi hg hB),hf.ucs hg,hf.uv hg,zeX λx hx=>?_⟩;obtain⟨j,_,rfl⟩:=qaz.1 hx;exact qbG (hf.le _) (hg.le _)
def zs7(cs:List Nat)(s:Nat->Nat):Prop:=∀ v,v<cs.length->s v<cs.getD v 0
theorem Stc.fit{cs:List Nat}(h:Stc cs f M){s:Nat->Nat}(hs:zs7 cs s):Fit f s:=λv hv=>by rw[h.at hv]; exact hs v (h.var v hv)
theorem Stc.zjq{cs:List Nat}{f g:Fc}{M N:Nat}(hc:NCs cs)(hf:Stc cs f M)(hg:Stc cs g N)(hB:M * N<=zdW){s:Nat->Nat}(hs:zs7 cs s):(zr8 f g).val s=f.val s * g.val s:=Go.Dc.zjq hf.ok hg.ok (hf.zaK hc hg) ((hf.mul hc hg hB).fit hs)
theorem RightN.stc{g:Nat}(h:RightN g ns)(hv:v<ns.length):Stc (ns.map (·.c)) (zn8 (ns.map (·.c)) v (ns.getD v zhA)) 60:=by
 have hf:=h.fac (zw3 hv);exact⟨zof hf,rfl,hf.flt,zwY hf⟩
def zvJ:Fc:=⟨[],[],[1]⟩
theorem zo7(cs:List Nat):Stc cs zvJ 1:=by
 refine⟨⟨rfl,by simp[zvJ],by simp[zvJ],by simp[zvJ,zab],rfl,List.Pairwise.nil,by simp[zvJ],λw hw=>by rw[qaL.1 hw]; decide⟩,rfl,by simp[zvJ],zeX (by simp[zvJ])⟩
theorem zzQ(s:Nat->Nat):zvJ.val s=1:=rfl
structure Prf (ns:List NN) (i:Nat) (f:Fc):Prop where
 st:Stc (ns.map (·.c)) f (60 ^ i)
 mem:∀ v,v<i->v∈f.vs
 val:∀ s,zs7 (ns.map (·.c)) s->f.val s=wtO ns (List.range i) s
theorem zqz:∀(cs:List Nat) (w:Nat),zCw cs w=dig cs w
 | [],_=>rfl
 | c :: cs,w=>by
  unfold zCw dig;rw[zqz cs]
def wld(ns:List NN)(w:Nat):Nat->Nat:=zhG (List.range ns.length) (dig (ns.map (·.c)) w) λ_=>0
theorem zzq(ns:List NN)(w:Nat):(List.range ns.length).map (wld ns w)=dig (ns.map (·.c)) w:=by
 have hl:(List.range ns.length).length=(dig (ns.map (·.c)) w).length:=by rw[zfc]; simp
 rw[<- zm5 qcP hl];exact qbx λu hu=>zon qcP hl hu
theorem zzt(ns:List NN)(w:Nat){u:Nat}(hu:u<ns.length):wld ns w u=(dig (ns.map (·.c)) w).getD u 0:=by
 rw[<- zzq ns w,qae,qaW,qcF hu];rfl
theorem zzU{g:Nat}(h:RightN g ns){w:Nat}(hw:w<zab (ns.map (·.c))):zs7 (ns.map (·.c)) (wld ns w):=by
 intro v hv;have hv':v<ns.length:=by simpa using hv
 rw[zzt ns w hv',<- zqz];have:=zub hw v hv;rw[show(ns.map (·.c)).getD v 0=(ns.map (·.c))[v] by rw[qae,qac hv]; rfl];exact this
def wtW(ns:List NN)(w:Nat):Nat:=wtO ns (List.range ns.length) (wld ns w)
theorem Prf.get{g:Nat}(h:RightN g ns)(hf:Prf ns ns.length f):f.ws.length=zab (ns.map (·.c))/\∀ w,w<zab (ns.map (·.c))->zaz (iL f.ws) (w:Int)=some ((wtW ns w:Nat):Int):=by
 have hvs:f.vs=List.range ns.length:=zhS hf.st.ok.inc qdn λv=>by
  rw[qbi];exact⟨λhv=>by simpa using hf.st.var v hv,hf.mem v⟩
 have hcs:f.cs=ns.map (·.c):=by
  rw[hf.st.cs_,hvs];have:=zpD (ns.map (·.c));rw[qay]at this;exact this
 have hsz:=hf.st.ok.size;rw[hcs]at hsz;refine⟨hsz,λw hw=>?_⟩;have e:=zsC hf.st.ok (i:=w) (by rw[hcs]; exact hw);have e2:f.val (at_ f.vs (dig f.cs w))=f.val (wld ns w):=by
  refine val_congr λu hu=>?_
  rw[hvs,hcs];rw[hvs]at hu;exact(zon qcP (by rw[zfc]; simp) hu).symm
 rw[e2,hf.val _ (zzU h hw)]at e;rw[zgt (by rw[hsz]; exact hw)];congr 2
 exact e.symm
theorem zxl{g:Nat}{ns:List NN}{e:List Int}{r1:S_net_network×Int}(hc:r1.1.zaK=iL (ns.map (·.c)))(hl:e.length=ns.length)(hn:ns.length<=8):∀(n m i:Nat),i<=e.length->e.length - i<n->e.length - i<m ->
  (zaY e r1 n (i:Int)=some (.go ())/\zaV e (zbF g ns) m (i:Int)=some (.go ()))\/
  (zaY e r1 n (i:Int)=some (.ret 2)/\zaV e (zbF g ns) m (i:Int)=some (.ret false))
 | 0,_,_,_,h,_=>absurd h (qak _)
 | _,0,_,_,_,h=>absurd h (qak _)
 | n+1,m+1,i,h1,h3,h5=>by
  unfold zaY zaV;rw[zam];by_cases hi:i<e.length
  .obtain⟨x,hx⟩:∃ x,e[i]=x:=⟨_,rfl⟩;have hin:i<ns.length:=by omega
   rw[qdB hi,qdz,qdz,zay hi,qaa,qaa,hx];by_cases c1:x < -1
   .rw[qdB c1,qdz,qdz,qaa,qaa,qdz,qdz];exact .inr ⟨rfl,rfl⟩
   have hg:zaz (iL (ns.map (·.c))) (i:Int)=some ((ns[i].c:Nat):Int):=by rw[zbf (by simpa using hin)]; simp
   rw[qdC c1,qdA,qdA,hc,hg,show zaz (zbF g ns).nodes (i:Int)=some (nd ns[i])from zcX hin];simp only[qaa,show(nd ns[i]).zap=((ns[i].c:Nat):Int)from rfl];by_cases c2:((ns[i].c:Nat):Int)<=x
   .rw[qdB c2,qdz,qdz];exact .inr ⟨rfl,rfl⟩
   rw[qdC c2,qdA,qdA,zah (by omega)];exact zxl hc hl hn n m (i+1) hi (by omega) (by omega)
  rw[qdC hi,qdA,qdA];exact .inl ⟨rfl,rfl⟩
theorem zy6{g:Nat}(h:RightN g ns)(e:List Int):∃ b:Bool,zbN (zbF g ns) e=some b/\za4 (zbF g ns) e=some (bif b then 0 else 2):=by
 obtain⟨os,_,_,e2⟩:=zzR h;have hn:=h.n2;have hnl:(zbF g ns).nodes.length=ns.length:=by simp[zbF]
 unfold zbN za4;rw[e2,qaa];simp only[];rw[show((0:Int)== 0)=true from rfl,qdz,hnl];by_cases hl:e.length=ns.length
 .rw[show(((e.length:Nat):Int)==((ns.length:Nat):Int))=true by rw[hl]; simp,qdz,qdz,zaq];rcases zxl (g:=g) (e:=e) (r1:=(⟨zbF g ns,iL (ns.map (·.c)),iL (zai ns),iL os⟩,0)) rfl hl hn (e.length+2) (e.length+2) 0 (qau _) (by omega) (by omega)with⟨g1,g2⟩| ⟨g1,g2⟩
  .rw[show((0:Nat):Int)=0 from rfl]at g1 g2;rw[g1,g2,qaa,qaa];exact⟨true,rfl,rfl⟩
  rw[show((0:Nat):Int)=0 from rfl]at g1 g2;rw[g1,g2,qaa,qaa];exact⟨false,rfl,rfl⟩
 rw[show(((e.length:Nat):Int)==((ns.length:Nat):Int))=false by rw[qdE]; omega,qdA,qdA];exact⟨false,rfl,rfl⟩
theorem zFE{a:Int}:∃ q,zl6 .u8 a (v:Int)=some q:=zpK .u8 a
end Go.Dc
