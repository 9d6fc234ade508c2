/-
 Plain laws: a row of a table sums to the grain. Conditions: none.
-/
import Derived.Test.YtbjogdohfhdaiaaGreatENJ7
set_option linter.unusedSimpArgs false
set_option linter.unusedVariables false
namespace Go.Dc
open Go Go.Mx Go.Lx
variable{xs:List Nat}{i v:Nat}
theorem zhV(h:i<xs.length):zeU (iL xs) (i:Int) (v:Int)=some (iL (xs.set i v)):=by
 rw[zfd (by rw[zak]; exact h)]; simp[iL]
theorem zt9:∀ {xs:List Nat} {i k:Nat} (h:i<xs.length),(xs.set i (xs[i]+k)).sum=xs.sum+k
 | [],i,k,h=>absurd h (qak _)
 | x :: xs,0,k,h=>by simp; omega
 | x :: xs,i+1,k,h=>by
  have:=zt9 (xs:=xs) (i:=i) (k:=k) (by simpa using h);simp only[qcv,qcf,List.getElem_cons_succ,this];omega
theorem zkw:∀ {xs:List Nat} {i:Nat} (h:i<xs.length),xs[i]<=xs.sum
 | [],i,h=>absurd h (qak _)
 | x :: xs,0,h=>by simp
 | x :: xs,i+1,h=>by
  have:=zkw (xs:=xs) (i:=i) (by simpa using h);simp only[qcf,List.getElem_cons_succ];omega
variable{xs0 bs:List Nat}
theorem zdK{x:Nat}:zaz (iL (xs0 ++ x :: bs)) ((xs0.length:Nat):Int)=some (x:Int):=by
 rw[zbf (by simp)]; simp
theorem zgc{x y:Nat}:zeU (iL (xs0 ++ x :: bs)) ((xs0.length:Nat):Int) (y:Int)=some (iL (xs0 ++ y :: bs)):=by
 rw[zhV (by simp)]; simp
variable{a b:Nat}
theorem zlM(hb:0<b):zrz (a:Int) (b:Int)=some ((a % b:Nat):Int):=by
 unfold zrz;have:((b:Int)== 0)=false:=by simp; omega
 rw[this,qdA]; rfl
theorem zvP(a b:Nat):(a:Int).tmod (b:Int)=((a % b:Nat):Int):=rfl
theorem zEp{ws:List Nat}{g p c:Nat}(hp:p<=65536)(hc:c<=8):∀(n:Nat) (xs0:List Nat) (k:Nat),xs0.length+k=c->xs0.sum<=7 * xs0.length->k<n ->
  ∃ zs:List Nat,zs.length=c/\zs.sum<=7 * c/\zc5 (c:Int) (iL ws) (p:Int) n ((xs0.sum:Nat):Int) (xs0.length:Int) (iL (xs0 ++ List.replicate k 0))=some (((zs.sum:Nat):Int),iL zs)
 | 0,_,_,_,_,h=>absurd h (qak _)
 | n+1,xs0,0,h1,h2,h3=>by
  refine⟨xs0,by simpa using h1,by rw[<- h1]; simpa using h2,?_⟩;unfold zc5;rw[zam,qdC (by omega),qdA];simp
 | n+1,xs0,k+1,h1,h2,h3=>by
  have step:∀ a:Nat,a<=7->∃ zs:List Nat,zs.length=c/\zs.sum<=7 * c/\zc5 (c:Int) (iL ws) (p:Int) n (w64 (((xs0.sum:Nat):Int)+(a:Int))) (w64 ((xs0.length:Int)+1)) (iL (xs0 ++ a :: List.replicate k 0))=some (((zs.sum:Nat):Int),iL zs):=by
   intro a ha;obtain⟨zs,e1,e2,e3⟩:=zEp (ws:=ws) (g:=g) hp hc n (xs0 ++ [a]) k (by simp; omega) (by simp; omega) (by omega);refine⟨zs,e1,e2,?_⟩;rw[zah (by omega),<- qcX,zaJ (by omega),<- e3];simp
  unfold zc5;rw[zam,qdB (by omega),qdz,zak,qa1];by_cases h0:0<ws.length
  .have hq:(p+xs0.length) % ws.length<ws.length:=qbk _ h0;obtain⟨zs,e1,e2,e3⟩:=step (ws[(p+xs0.length) % ws.length] % 8) (by omega);refine⟨zs,e1,e2,?_⟩
   rw[show decide ((0:Int)<(ws.length:Int))=true by simpa using h0,qdz,<- qcX,zaJ (by omega),zlM h0,qaa,zbf hq,qaa,zdK,
    qaa,show(((ws[(p+xs0.length) % ws.length]:Nat):Int).tmod 8)=((ws[(p+xs0.length) % ws.length] % 8:Nat):Int)from rfl,zaJ (by omega),zgc,
    qaa,qaa,zdK,qaa,e3]
  obtain⟨zs,e1,e2,e3⟩:=step 0 (by omega);refine⟨zs,e1,e2,?_⟩;rw[show decide ((0:Int)<(ws.length:Int))=false by simpa using h0,qdA,qaa,zdK,qaa,e3]
theorem zDa{g t c:Nat}(hg:g<=60)(hc:c<=8)(ht:t<=65536):∀(n:Nat) (xs0 bs:List Nat) (m:Nat) (v:Nat),xs0.length+bs.length=c->xs0.sum * t+g * bs.sum<=g * t->bs.sum<=t->xs0.sum<=g->v<c->bs.length<n ->
  ∃(zs:List Nat) (v':Nat),zs.length=c/\zs.sum<=g/\v'<c/\zdu (c:Int) (g:Int) (t:Int) n ((g - xs0.sum:Nat):Int) (v:Int) (xs0.length:Int) (iL (xs0 ++ bs))=some (((g - zs.sum:Nat):Int),(v':Int),iL zs)
 | 0,_,_,_,_,_,_,_,_,_,h=>absurd h (qak _)
 | n+1,xs0,[],m,v,h1,h2,h2b,h3,h4,h5=>by
  refine⟨xs0,v,by simpa using h1,h3,h4,?_⟩;unfold zdu;rw[zam,qdC (by simp at h1; omega),qdA];simp
 | n+1,xs0,b :: bs,m,v,h1,h2,h2b,h3,h4,h5=>by
  simp only[qaP,qcf]at h1 h2 h2b h5;unfold zdu;rw[zam,qdB (by omega),qdz,zdK,qaa];by_cases h0:0<b
  .have hb:b<=t:=by omega
   have hgb:g * b<=60 * 65536:=qbG hg (by omega);have hd:g * b / t * t<=g * b:=Nat.div_mul_le_self _ _;have hs:xs0.sum+g * b / t<=g:=by
    have h6:(xs0.sum+g * b / t)* t<=g * t:=by
     rw[qaN];have:g * (b+bs.sum)=g * b+g * bs.sum:=Nat.mul_add _ _ _;omega
    exact qcr h6 (by omega)
   obtain⟨zs,v',e1,e2,e3,e4⟩:=zDa hg hc ht n (xs0 ++ [g * b / t]) bs m xs0.length (by simp; omega) (by
    have:g * (b+bs.sum)=g * b+g * bs.sum:=Nat.mul_add _ _ _
    simp only[List.sum_append,qcf,List.sum_nil,qbH,qaN]; omega) (by omega) (by simpa using hs) (by omega) (by omega)
   refine⟨zs,v',e1,e2,e3,?_⟩;have hq:zvI .i64 (w64 ((g:Int)* (b:Int))) (t:Int)=some ((g * b / t:Nat):Int):=by
    unfold zvI;have:((t:Int)== 0)=false:=by simp; omega
    rw[this,qdA,<- qbo,zaJ (by omega)];have hle:g * b / t<=g * b:=Nat.div_le_self _ _;exact congrArg some (zaJ (n:=g * b / t) (by omega))
   rw[show decide ((0:Int)<(b:Int))=true by simpa using h0,qdz,hq,qaa,zgc,qaa,qaa];simp only[];rw[zdK,qaa,zah (by omega),show(((g - xs0.sum:Nat):Int) - ((g * b / t:Nat):Int))=((g - (xs0.sum+g * b / t):Nat):Int) by omega,zaJ (qb7 (Nat.sub_le _ _) (by omega)),<- e4];simp
  have hb:b=0:=by omega
  subst hb;obtain⟨zs,v',e1,e2,e3,e4⟩:=zDa hg hc ht n (xs0 ++ [0]) bs m v (by simp; omega) (by simp at h2 ⊢; omega) (by omega) (by simpa using h3) h4 (by omega);refine⟨zs,v',e1,e2,e3,?_⟩;rw[show decide ((0:Int)<((0:Nat):Int))=false from rfl,qdA,qaa];simp only[];rw[zdK,qaa,zah (by omega),<- Int.ofNat_sub (by omega),zaJ (by omega),<- e4];simp
variable{g p c:Nat}
theorem zzi{ws:List Nat}(hg:g<=60)(hp:p<=65536)(h1:1<=c)(hc:c<=8):
  ∃ zs:List Nat,zs.length=c/\zs.sum=g/\zfx (g:Int) (c:Int) (iL ws) (p:Int)=some (iL zs):=by
 obtain⟨zs,e1,e2,e3⟩:=zEp (ws:=ws) (g:=g) hp hc (c+2) [] c (by simp) (by simp) (by omega);obtain⟨ys,v,f1,f2,f3,f4⟩:=zDa (g:=g) (t:=zs.sum) (c:=c) hg hc (by omega) (c+2) [] zs 0 0 (by simp[e1]) (by simp) (qap _) (by simp) (by omega) (by omega);have hv:v<ys.length:=by omega
 refine⟨ys.set v (ys[v]+(g - ys.sum)),by simp[f1],by rw[zt9]; omega,?_⟩;unfold zfx;have hz:List.replicate c (0:Int)=iL (List.replicate c 0):=by simp[iL]
 simp only[qbe,List.sum_nil,qa7,qdg]at e3 f4;rw[zdh (by omega),qaa,hz,zaq];rw[show((0:Nat):Int)=0 from rfl]at e3 f4;rw[e3,qaa];simp only[];rw[f4,qaa];simp only[];rw[zbf hv,qaa,<- qcX,zaJ,zhV hv,qaa];have:ys[v]<=ys.sum:=zkw hv;omega
theorem zst{c w:Nat}{os:List Int}{wh:Int}(hc:c<=5):∀(n i:Nat) (acc:List Int),acc.length=i->i<=c->c - i<n ->
  ∃ zs:List Int,zs.length=c/\zbl ⟨List.replicate c 0,wh,os⟩ n (i:Int) acc=some zs
 | 0,_,_,_,_,h=>absurd h (qak _)
 | n+1,i,acc,h1,h2,h3=>by
  unfold zbl;simp only[qcW];by_cases hi:i<c
  .obtain⟨zs,e1,e2⟩:=zst (w:=w) (os:=os) (wh:=wh) hc n (i+1) (acc ++ [1]) (by simp[h1]) hi (by omega);refine⟨zs,e1,?_⟩
   rw[zam,qdB hi,qdz,qaa,show decide ((i:Int)<5)=true by simp; omega,qdz,zay (by simpa using hi),qaa,
    List.getElem_replicate,show w64 (1+w64 ((0:Int).tmod 4))=1 from rfl,zdt (by simp; omega),qaa,zah (by omega),e2]
  exact⟨acc,by omega,by rw[zam,qdC hi,qdA,qaa,qdA]⟩
variable{N:Nat}
theorem zxg{os:List Int}{wh:Int}(hc:c<=5)(hN:6<=N):∃ zs:List Int,zs.length=c/\zb0 N ⟨List.replicate c 0,wh,os⟩=some zs:=by
 obtain⟨zs,e1,e2⟩:=zst (w:=0) (os:=os) (wh:=wh) hc N 0 [] rfl (qau _) (by omega);refine⟨zs,e1,?_⟩;unfold zb0;rw[show((0:Nat):Int)=0 from rfl]at e2;rw[e2,qaa]
structure PermOk (c:Nat) (xs:List Nat):Prop where
 len:xs.length=c
 nod:xs.Nodup
 lt:∀ x∈xs,x<c
 all:∀ x,x<c->x∈xs
variable{α:Type}
theorem zhw{xs:List α}(h1:a<=b)(h2:b<=xs.length):zdS xs (a:Int) (b:Int)=some ((xs.drop a).take (b - a)):=by
 unfold zdS;rw[if_pos (by omega)];simp
theorem zxP{c N:Nat}{os:List Nat}{wh:Int}(hc:c<=5)(hN:6<=N)(ho:∀ o∈os,o<=255):∀(n i:Nat) (xs:List Nat),PermOk i xs->i<=c->c - i<n ->
  ∃ zs:List Nat,PermOk c zs/\zaI N ⟨List.replicate c 0,wh,iL os⟩ n (i:Int) (iL xs)=some (iL zs)
 | 0,_,_,_,_,h=>absurd h (qak _)
 | n+1,i,xs,h1,h2,h3=>by
  unfold zaI;obtain⟨z0,z1,z2⟩:=zxg (os:=iL os) (wh:=wh) hc hN;rw[z2,qaa,z1];by_cases hi:i<c
  .have step:∀ q:Nat,q<=i->∃ zs:List Nat,PermOk c zs/\((zdS (iL xs) 0 (q:Int)).bind λy9=>
     (zfW 8 y9).bind λy11=>(zd1 8 y9 [(i:Int)]).bind λy13=>(zdS (iL xs) (q:Int) (iL xs).length).bind λy15=>(zd1 8 y13 y15).bind λy17=>
     zaI N ⟨List.replicate c 0,wh,iL os⟩ n (w64 ((i:Int)+1)) y17)=some (iL zs):=by
    intro q hq;have hl:=h1.len;have hp:List.Perm (xs.take q ++ i :: xs.drop q) (i :: xs):=by
     refine List.perm_middle.trans ?_;rw[qb1]
    obtain⟨zs,e1,e2⟩:=zxP (wh:=wh) hc hN ho n (i+1) (xs.take q ++ i :: xs.drop q) ⟨by rw[hp.length_eq]; simp[hl],hp.nodup_iff.2 (qbs.2 ⟨λhx=>qcw _ (h1.lt _ hx),h1.nod⟩),
     λx hx=>by
      rcases qax.1 (hp.mem_iff.1 hx)with h | h
      .omega
      have:=h1.lt _ h; omega,
     λx hx=>hp.mem_iff.2 (by
      by_cases hxi:x=i
      .exact qax.2 (.inl hxi)
      exact qai _ (h1.all _ (by omega)))⟩ hi (by omega)
    refine⟨zs,e1,?_⟩
    rw[show(0:Int)=((0:Nat):Int)from rfl,zhw (qau _) (by rw[zak]; omega),qaa,zir (by simp[zak]; omega),qaa,
     zdt (by simp[zak]; omega),qaa,zhw (by rw[zak]; omega) (qap _),qaa,zdt (by simp[zak]; omega),qaa,zah (by omega),<- e2]
    congr 1
    simp[iL,qaO]
   rw[zam,qdB hi,qdz];simp only[zak (os)];by_cases hio:i<os.length
   .have hq:os[i] % (i+1)<=i:=Nat.lt_succ_iff.1 (qbk _ (Nat.succ_pos _));have hb:=ho _ (qao hio);obtain⟨zs,e1,e2⟩:=step _ hq;refine⟨zs,e1,?_⟩;rw[zam,qdB hio,qdz,zbf hio,qaa,zaJ (by omega),zah (by omega),zlM (by omega),qaa,qaa,<- zah (by omega)];exact e2
   obtain⟨zs,e1,e2⟩:=step 0 (qau _);refine⟨zs,e1,?_⟩;rw[zam,qdC hio,qdA,qaa];exact e2
  have:i=c:=by omega
  subst this;exact⟨xs,h1,by rw[zam,qdC hi,qdA]⟩
theorem zz3{os:List Nat}{wh:Int}(hc:c<=5)(hN:6<=N)(ho:∀ o∈os,o<=255):
  ∃ zs:List Nat,PermOk c zs/\zba N ⟨List.replicate c 0,wh,iL os⟩=some (iL zs):=by
 obtain⟨zs,e1,e2⟩:=zxP (wh:=wh) hc hN ho N 0 [] ⟨rfl,List.nodup_nil,by simp,by simp⟩ (qau _) (by omega);refine⟨zs,e1,?_⟩;unfold zba;rw[show((0:Nat):Int)=0 from rfl,show iL []=[]from rfl]at e2;rw[e2,qaa]
structure NN where
 c:Nat
 ps:List Nat
 rows:List (List Nat)
def nd(x:NN):S_api_Node:=⟨x.c,iL x.ps,x.rows.map iL⟩
theorem zpK(k:IntKind)(a:Int):∃ q,zl6 k a (v:Int)=some q:=by
 unfold zl6;rw[if_pos (qbL v)];exact⟨_,rfl⟩
variable{num:List Nat}{k:Nat}
theorem zwD{ps:List Nat}{ps8:Int}{u:Nat}(hk:k<num.length):∃ b,zv0 (iL num) ps8 (u:Int) (k:Int) (iL ps)=some b/\(b=true->num[k]=u/\ps.length<3):=by
 unfold zv0;rw[zbf hk,qaa];by_cases h:num[k]=u
 .obtain⟨q,e⟩:=zpK .u8 ps8 (v:=k % 18446744073709551616);rw[show(((num[k]:Nat):Int)==(u:Int))=true by simp[h],qdz,zCs,e,qaa];cases zkd .u8 q 1 == 1 with
  | true=>exact⟨_,rfl,λh2=>⟨h,by rw[zak]at h2; have:=qdG h2; omega⟩⟩
  | false=>exact⟨_,rfl,λh2=>by cases h2⟩
 rw[show(((num[k]:Nat):Int)==(u:Int))=false by simp; omega,qdA];exact⟨_,rfl,λh2=>by cases h2⟩
theorem zlw{num:List Nat}{ps8:Int}{u i:Nat}(hi:i<=num.length)(hn:num.length<=5)(hd:num.Nodup):∀(n k:Nat) (ps:List Nat),ps.length<=3->k<=i->i - k<n ->
  ∃ qs:List Nat,zow (iL num) (i:Int) ps8 (u:Int) n (k:Int) (iL ps)=some (iL qs)/\(qs=ps\/(qs=ps ++ [u]/\ps.length<3/\∃ j,k<=j/\j<i/\num[j]? = some u))
 | 0,_,_,_,_,h=>absurd h (qak _)
 | n+1,k,ps,h1,h2,h3=>by
  unfold zow;by_cases hk:k<i
  .obtain⟨b,e,hb⟩:=zwD (num:=num) (ps:=ps) (ps8:=ps8) (u:=u) (k:=k) (by omega);rw[zam,qdB hk,qdz,e,qaa];cases b with
   | false=>
    obtain⟨qs,e2,h4⟩:=zlw (ps8:=ps8) (u:=u) hi hn hd n (k+1) ps h1 hk (by omega);refine⟨qs,by rw[qdA,zah (by omega),e2],?_⟩;rcases h4 with h4 | ⟨h4,h5,j,h6,h7,h8⟩
    .exact .inl h4
    .exact .inr ⟨h4,h5,j,by omega,h7,h8⟩
   | true=>
    obtain⟨h5,h6⟩:=hb rfl;obtain⟨qs,e2,h4⟩:=zlw (ps8:=ps8) (u:=u) hi hn hd n (k+1) (ps ++ [u]) (by simp; omega) hk (by omega);refine⟨qs,?_,.inr ⟨?_,h6,k,qap _,hk,by rw[qac (by omega),h5]⟩⟩
    .rw[qdz,zdt (by simp[zak]; omega),qaa,zah (by omega),<- e2];simp[iL]
    rcases h4 with h4 | ⟨h4,h7,j,h8,h9,h10⟩
    .exact h4
    exfalso
    have hj:j<num.length:=by omega
    rw[qac hj]at h10;have h12:num[j]=num[k]'(by omega):=by rw[h5]; exact qaf h10
    exact qbn.1 hd k j (by omega) hj (by omega) h12.symm
  exact⟨ps,by rw[zam,qdC hk,qdA],.inl rfl⟩
structure ParOk (num:List Nat) (i:Nat) (b:Nat) (ps:List Nat):Prop where
 len:ps.length<=3
 inc:ps.Pairwise (· < ·)
 lt:∀ p∈ps,p<b
 mem:∀ p∈ps,∃ j,j<i/\num[j]? = some p
theorem zpP{num:List Nat}{ps8:Int}{i c:Nat}(hi:i<=num.length)(hn:num.length<=5)(hc:c<=5)(hd:num.Nodup):∀(n u:Nat) (ps:List Nat),ParOk num i u ps->u<=c->c - u<n ->
  ∃ qs:List Nat,zrC (iL num) (i:Int) ps8 (c:Int) n (u:Int) (iL ps)=some (iL qs)/\ParOk num i c qs
 | 0,_,_,_,_,h=>absurd h (qak _)
 | n+1,u,ps,h1,h2,h3=>by
  unfold zrC;by_cases hu:u<c
  .obtain⟨qs,e,h4⟩:=zlw (ps8:=ps8) (u:=u) hi hn hd (i+2) 0 ps h1.len (qau _) (by omega);rw[show((0:Nat):Int)=0 from rfl]at e;have hq:ParOk num i (u+1) qs:=by
    rcases h4 with h4 | ⟨h4,h5,j,h6,h7,h8⟩
    .subst h4;exact⟨h1.len,h1.inc,λp hp=>qcY (h1.lt p hp),h1.mem⟩
    subst h4;refine⟨by simp; omega,?_,?_,?_⟩
    .rw[qc5];exact⟨h1.inc,List.pairwise_singleton _ _,λa ha b hb=>by rw[qaL.1 hb]; exact h1.lt a ha⟩
    .intro p hp;rcases qa8.1 hp with hp | hp
     .exact qcY (h1.lt p hp)
     rw[qaL.1 hp]; exact qbQ _
    intro p hp;rcases qa8.1 hp with hp | hp
    .exact h1.mem p hp
    rw[qaL.1 hp]; exact⟨j,h7,h8⟩
   obtain⟨rs,e2,h9⟩:=zpP (ps8:=ps8) hi hn hc hd n (u+1) qs hq hu (by omega);refine⟨rs,?_,h9⟩;rw[zam,qdB hu,qdz,qaG,e,qaa,zah (by omega),e2]
  have:u=c:=by omega
  subst this;exact⟨ps,by rw[zam,qdC hu,qdA],h1⟩
variable{ns:List NN}
theorem zcX(h:v<ns.length):zaz (ns.map nd) (v:Int)=some (nd ns[v]):=by
 rw[zay (by simpa using h)]; simp
theorem zgJ{x:NN}(h:v<ns.length):zeU (ns.map nd) (v:Int) (nd x)=some ((ns.set v x).map nd):=by
 rw[zfd (by simpa using h)]; simp
theorem zys{ps8:Int}(hi:i<=num.length)(hn:num.length<=5)(hl:ns.length<=5)(hd:num.Nodup)(hv:v<ns.length)(hp:ns[v].ps=[]):
  ∃ qs:List Nat,zpc (iL num) (i:Int) (v:Int) (ns.length:Int) ps8 (ns.map nd)=some ((ns.set v ⟨ns[v].c,qs,ns[v].rows⟩).map nd)/\ParOk num i ns.length qs:=by
 obtain⟨qs,e,h⟩:=zpP (ps8:=ps8) hi hn hl hd (ns.length+2) 0 [] ⟨by simp,by simp,by simp,by simp⟩ (qau _) (by omega);refine⟨qs,?_,h⟩;unfold zpc;rw[show((0:Nat):Int)=0 from rfl,show iL []=[]from rfl]at e;rw[zcX hv,qaa,show(nd ns[v]).parents.isEmpty=true by simp[nd,hp,iL],qdz,qaG,e,qaa];exact zgJ (x:=⟨ns[v].c,qs,ns[v].rows⟩) hv
structure RowsOk (g c m:Nat) (rows:List (List Nat)):Prop where
 len:rows.length=m
 row:∀ r∈rows,r.length=c/\r.sum=g
theorem zjn{x:NN}(hv:v<ns.length)(hx:x.c=ns[v].c):(ns.set v x).map (·.c)=ns.map (·.c):=by
 rw[qdh,hx];apply qcd (by simp);intro i h1 h2;rw[List.getElem_set];split
 .subst_vars; simp
 rfl
def zdY(ns:List NN)(ps:List Nat):List Nat:=ps.map λp=>(ns.map (·.c)).getD p 0
theorem zvf:(iL xs).getD p 0=((xs.getD p 0:Nat):Int):=by
 simp only[iL,qae,qaW];cases xs[p]?<;>rfl
theorem zC5{g:Int}(hl:ns.length<=8)(hv:v<ns.length)(hp:Pl ns.length ns[v].ps)(h8:ns[v].ps.length<=8):
  zaX ⟨g,ns.map nd⟩ (v:Int)=some (iL (zdY ns ns[v].ps)):=by
 unfold zaX;rw[zcX hv,qaa,zqC (by simpa using hl),qaa];have hc:(ns.map nd).map (·.zap)=iL (ns.map (·.c)):=by simp[iL,nd,qbv]
 simp only[];rw[hc,show(nd ns[v]).parents=iL ns[v].ps from rfl,zBQ (by rw[zak,qay]; exact hp) h8,qaa];congr 1
 simp only[zvf];simp only[zdY,iL,qdf,qbv]
theorem zql{g:Nat}{W:List Nat}{ns:List NN}{v m:Nat}(hg:g<=60)(hl:ns.length<=8)(hv:v<ns.length)(hp:Pl ns.length ns[v].ps)(h8:ns[v].ps.length<=8)(hc1:1<=ns[v].c)(hc4:ns[v].c<=4)
  (hs:∀ x∈zdY ns ns[v].ps,1<=x) (hm:zab (zdY ns ns[v].ps)=m) (hm2:m<=1024):∀(n r:Nat) (rows:List (List Nat)),RowsOk g ns[v].c r rows->r<=m->m - r<n ->
  ∃ rows',RowsOk g ns[v].c m rows'/\zrb (g:Int) (v:Int) (iL W) (ns.map nd) (nd ns[v]) n (r:Int) (rows.map iL)=some (rows'.map iL)
 | 0,_,_,_,_,h=>absurd h (qak _)
 | n+1,r,rows,h1,h2,h3=>by
  unfold zrb;have hx:(⟨(nd ns[v]).zap,(nd ns[v]).parents,rows.map iL⟩:S_api_Node)=nd ⟨ns[v].c,ns[v].ps,rows⟩:=rfl;have hpc:zaX ⟨g,(ns.set v ⟨ns[v].c,ns[v].ps,rows⟩).map nd⟩ (v:Int)=some (iL (zdY ns ns[v].ps)):=by
   rw[zC5 (by simpa using hl) (by simpa using hv) (by simpa using hp) (by simpa using h8)];unfold zdY;rw[zjn (x:=⟨ns[v].c,ns[v].ps,rows⟩) hv rfl];simp
  rw[hx,zgJ hv,qaa,hpc,qaa,zt8 hs (by simpa [zdY]using h8) (by omega),qaa,hm];by_cases hr:r<m
  .have hmul:r * (ns[v].c+1)<=1024 * 5:=qbG (by omega) (by omega);obtain⟨zs,e1,e2,e3⟩:=zzi (ws:=W) (g:=g) (p:=r * (ns[v].c+1)) (c:=ns[v].c) hg (by omega) hc1 (by omega)
   obtain⟨rows',e4,e5⟩:=zql hg hl hv hp h8 hc1 hc4 hs hm hm2 (W:=W) n (r+1) (rows ++ [zs]) ⟨by simp[h1.len],by
    intro y hy;rcases qa8.1 hy with hy | hy
    .exact h1.row y hy
    rw[qaL.1 hy]; exact⟨e1,e2⟩⟩ hr (by omega)
   refine⟨rows',e4,?_⟩;have hcard:(nd ns[v]).zap=((ns[v].c:Nat):Int):=rfl;have hlen:=h1.len;rw[zam,qdB hr,qdz,hcard,zah (by omega),<- qbo,zaJ (by omega),e3,qaa,zdt (by simp; omega),qaa,zah (by omega),<- e5];simp
  have:r=m:=by omega
  subst this;exact⟨rows,h1,by rw[zam,qdC hr,qdA]⟩
theorem zyS{W:List Nat}{ns:List NN}{v:Nat}(hg:g<=60)(hl:ns.length<=8)(hv:v<ns.length)(hp:Pl ns.length ns[v].ps)(h8:ns[v].ps.length<=8)(hc1:1<=ns[v].c)(hc4:ns[v].c<=4)(hs:∀ x∈zdY ns ns[v].ps,1<=x)(hm2:zab (zdY ns ns[v].ps)<=1024)(hr:ns[v].rows=[])(hN:1025<=N):
  ∃ rows,RowsOk g ns[v].c (zab (zdY ns ns[v].ps)) rows/\zo8 N (g:Int) (v:Int) (iL W) (ns.map nd)=some ((ns.set v ⟨ns[v].c,ns[v].ps,rows⟩).map nd):=by
 obtain⟨rows,e1,e2⟩:=zql hg hl hv hp h8 hc1 hc4 hs rfl hm2 (W:=W) N 0 [] ⟨rfl,by simp⟩ (qau _) (by omega);refine⟨rows,e1,?_⟩;unfold zo8;rw[show((0:Nat):Int)=0 from rfl,show([]:List (List Nat)).map iL=[]from rfl]at e2;rw[zcX hv,qaa,show(nd ns[v]).rows.isEmpty=true by simp[nd,hr],qdz,e2,qaa];exact zgJ (x:=⟨ns[v].c,ns[v].ps,rows⟩) hv
structure NodeOk (num:List Nat) (g:Nat) (cs:List Nat) (j:Nat) (x:NN):Prop where
 par:ParOk num j cs.length x.ps
 rows:RowsOk g x.c (zab (x.ps.map λp=>cs.getD p 0)) x.rows
structure NetOk (num:List Nat) (g:Nat) (ns:List NN):Prop where
 g1:1<=g
 g2:g<=60
 n1:1<=ns.length
 n2:ns.length<=8
 zap:∀ x∈ns,1<=x.c/\x.c<=4
 prod:zab (ns.map (·.c))<=1024
 perm:PermOk ns.length num
 node:∀(j v:Nat) (x:NN),num[j]? = some v->ns[v]? = some x->NodeOk num g (ns.map (·.c)) j x
structure PieceN where
 zap:Nat
 parents:Nat
 w:List Nat
structure DraftN where
 grain:Nat
 nodes:List PieceN
 order:List Nat
def zqw(x:PieceN):S_haruspexref05_Piece:=⟨x.zap,x.parents,iL x.w⟩
def zco(d:DraftN):S_haruspexref05_Draft:=⟨d.grain,d.nodes.map zqw,iL d.order⟩
structure DraftOk (d:DraftN):Prop where
 grain:d.grain<=255
 zap:∀ x∈d.nodes,x.zap<=255
 order:∀ x∈d.order,x<=255
def zme(d:DraftN):Nat:=min (max d.nodes.length 1) 5
theorem zo0(d:DraftN):zft (zfr ((zco d).nodes.length:Int) 1) 5=((zme d:Nat):Int):=by
 simp only[zft,zfr,zme,zco,qay];split<;>split<;>omega
def zmj(xs:List Nat):Nat:=xs.foldr (λx a=>max 1 x * a) 1
theorem zmF:∀ {xs:List Nat} {i c:Nat},xs[i]? = some 0->1<=c->zmj (xs.set i c)=zmj xs * c
 | [],i,c,h,hc=>by simp at h
 | x :: xs,0,c,h,hc=>by
  have:x=0:=by simpa using h
  subst this;simp only[qcu,zmj,qdw];rw[Nat.max_eq_right hc,Nat.max_eq_left (qau _),qbl,qaX]
 | x :: xs,i+1,c,h,hc=>by
  have ih:=zmF (xs:=xs) (i:=i) (c:=c) (by simpa using h) hc;simp only[qcv,zmj,qdw]at ih ⊢;rw[ih,qbd]
theorem zp3:∀ {xs:List Nat},(∀ x∈xs,1<=x)->zmj xs=zab xs
 | [],_=>rfl
 | x :: xs,h=>by
  have ih:=zp3 (xs:=xs) λy hy=>h y (qai _ hy)
  have hx:=h x qam;simp only[zmj,zab,qdw]at ih ⊢;rw[ih,Nat.max_eq_right hx]
theorem zEC(h:a * 2 ^ v<9223372036854775808)(hv:v<64):zjl .i64 (a:Int) (v:Int)=some ((a * 2 ^ v:Nat):Int):=by
 unfold zjl;rw[if_pos (qbL v)];congr 1
 have h1:min (v:Int).toNat IntKind.i64.bits=v:=by
  rw[show IntKind.i64.bits=64 from rfl,qaG]; exact qb6 (by omega)
 rw[h1];have h2:(a:Int)* ((2:Int) ^ v)=((a * 2 ^ v:Nat):Int):=by simp
 rw[h2];exact zaJ h
structure L1Ok (num:List Nat) (c j a:Nat) (ns:List NN):Prop where
 len:ns.length=c
 bare:∀ x∈ns,x.ps=[]/\x.rows=[]
 prod:zmj (ns.map (·.c))=a
 low:a * 2 ^ (c - j)<=100
 done:∀(k v:Nat),k<j->num[k]? = some v->∃ x,ns[v]? = some x/\2<=x.c/\x.c<=3
 left:∀(k v:Nat),j<=k->num[k]? = some v->∃ x,ns[v]? = some x/\x.c=0
theorem zmW{d:DraftN}(hd:DraftOk d){j:Nat}:∃(zap parents:Nat) (w:List Nat),zap<=255 /\
  ((bif (decide ((j:Int)<((zco d).nodes.length:Int)))then(
(zaz (zco d).nodes (j:Int)).bind λx9=>
some (x9.zap,x9.parents,x9.w))
else(
some (0,0,[])):Option ((Int×Int×(List Int)))))=some ((zap:Int),(parents:Int),iL w):=by
 have hl:(zco d).nodes.length=d.nodes.length:=by simp[zco]
 by_cases hj:j<d.nodes.length
 .refine⟨d.nodes[j].zap,d.nodes[j].parents,d.nodes[j].w,hd.zap _ (qao hj),?_⟩;rw[hl,zam,qdB hj,qdz,zay (by rw[hl]; exact hj),qaa];simp[zco,zqw]
 refine⟨0,0,[],by omega,?_⟩;rw[hl,zam,qdC hj,qdA];rfl
theorem zxt{d:DraftN}(hd:DraftOk d){num:List Nat}{c:Nat}(hc:zme d=c)(hp:PermOk c num):∀(n j a:Nat) (ns:List NN),L1Ok num c j a ns->j<=c->c - j<n ->
  ∃(ns':List NN) (a':Nat),L1Ok num c c a' ns'/\zbm (zco d) (iL num) n (a:Int) (j:Int) (ns.map nd)=some (ns'.map nd)
 | 0,_,_,_,_,_,h=>absurd h (qak _)
 | n+1,j,a,ns,h1,h2,h3=>by
  have hc5:c<=5:=by rw[<- hc]; exact qcM _ _
  unfold zbm;rw[zo0,hc];by_cases hj:j<c
  .rw[zam,qdB hj,qdz];obtain⟨zap,parents,w,hcard,e⟩:=zmW hd (j:=j);rw[e,qaa];simp only[];have hjn:j<num.length:=by rw[hp.len]; exact hj
   have hv:num[j]<ns.length:=by rw[h1.len]; exact hp.lt _ (qao hjn)
   obtain⟨x0,hx0,hx00⟩:=h1.left j num[j] (qap _) (qac hjn);have hx1:ns[num[j]]=x0:=by rw[qac hv]at hx0; exact qaf hx0
   have hbare:=h1.bare _ (qao hv);have hpow:1<=2 ^ (c - 1 - j):=Nat.one_le_two_pow;have hsplit:2 ^ (c - j)=2 * 2 ^ (c - 1 - j):=by rw[show c - j=(c - 1 - j)+1 by omega,Nat.pow_succ,qaX]
   have hlow:=h1.low;have hle:a * 2 ^ (c - 1 - j)<=100:=qaq (qcq a (by omega)) hlow;have ha:a<=100:=qaq (qa6 a hpow) hle;have step:∀ b:Nat,2<=b->b<=3->a * b * 2 ^ (c - 1 - j)<=100->∃(ns':List NN) (a':Nat),L1Ok num c c a' ns' /\
     ((zaz (iL num) (j:Int)).bind λx14=>(zaz (ns.map nd) x14).bind λx16=>(zeU (ns.map nd) x14 (S_api_Node.mk (b:Int) x16.parents x16.rows)).bind λy18=>
      zbm (zco d) (iL num) n (w64 ((a:Int)* (b:Int))) (w64 ((j:Int)+1)) y18)=some (ns'.map nd):=by
    intro b hb1 hb2 hb3;have hab:a * b<=100:=qaq (qa6 _ hpow) hb3
    obtain⟨ns',a',f1,f2⟩:=zxt hd hc hp n (j+1) (a * b) (ns.set num[j] ⟨b,ns[num[j]].ps,ns[num[j]].rows⟩) {
     len:=by simpa using h1.len
     bare:=λy hy=>by
      rcases qbF hy with hy | hy
      .exact h1.bare y hy
      subst hy; exact hbare
     prod:=by
      rw[qdh,zmF (c:=b) (by rw[qaW,qac hv,hx1]; simp[hx00]) (by omega),h1.prod]
     low:=by rw[show c - (j+1)=c - 1 - j by omega]; exact hb3
     done:=λk v hk hkv=>by
      by_cases hkj:k=j
      .subst hkj;rw[qac hjn]at hkv;have:=qaf hkv;subst this;exact⟨_,qaE hv,hb1,hb2⟩
      obtain⟨x,g1,g2⟩:=h1.done k v (by omega) hkv;refine⟨x,?_,g2⟩;rw[qar,g1];intro hh;have hk':=(qab.1 hkv);have hkl:k<num.length:=hk'.1;exact qbn.1 hp.nod k j hkl hjn (by omega) (by rw[hk'.2]; exact hh.symm)
     left:=λk v hk hkv=>by
      obtain⟨x,g1,g2⟩:=h1.left k v (by omega) hkv;refine⟨x,?_,g2⟩;rw[qar,g1];intro hh;have hk':=(qab.1 hkv);have hkl:k<num.length:=hk'.1
      exact qbn.1 hp.nod j k hjn hkl (by omega) (by rw[hk'.2]; exact hh) } hj (by omega)
    refine⟨ns',a',f1,?_⟩
    rw[zbf hjn,qaa,zcX hv,qaa,show S_api_Node.mk (b:Int) (nd ns[num[j]]).parents (nd ns[num[j]]).rows=nd ⟨b,ns[num[j]].ps,ns[num[j]].rows⟩from rfl,
     zgJ hv,qaa,<- qbo,zaJ (by omega),zah (by omega),f2]
   have hw1:w64 (2+w64 ((zap:Int).tmod 2))=((2+zap % 2:Nat):Int):=by
    rw[show((zap:Int).tmod 2)=((zap % 2:Nat):Int)from rfl,zaJ (by omega),show(2:Int)+((zap % 2:Nat):Int)=((2+zap % 2:Nat):Int) by omega,zaJ (by omega)]
   have hac:a * (2+zap % 2)<=100 * 3:=qbG ha (by omega);have hbig:a * (2+zap % 2)* 2 ^ (c - 1 - j)<=300 * 2 ^ 4:=qbG hac (qbV (by decide) (by omega));have hcc:w64 (((c:Nat):Int) - 1)=((c - 1:Nat):Int):=by rw[show((c:Nat):Int) - 1=((c - 1:Nat):Int) by omega,zaJ (by omega)]
   have hcj:w64 (((c - 1:Nat):Int) - (j:Int))=((c - 1 - j:Nat):Int):=by rw[show((c - 1:Nat):Int) - (j:Int)=((c - 1 - j:Nat):Int) by omega,zaJ (by omega)]
   rw[hw1,hcc,hcj,zcZ (by omega),<- qbo,zaJ (by omega),zEC (by omega) (by omega),qaa];by_cases hbg:100<a * (2+zap % 2)* 2 ^ (c - 1 - j)
   .obtain⟨ns',a',f1,f2⟩:=step 2 (by omega) (by omega) (by rw[qbd,<- hsplit]; exact hlow);refine⟨ns',a',f1,?_⟩;rw[show decide ((100:Int)<((a * (2+zap % 2)* 2 ^ (c - 1 - j):Nat):Int))=true from qdB (by omega),qdz,qaa];exact f2
   obtain⟨ns',a',f1,f2⟩:=step (2+zap % 2) (by omega) (by omega) (by omega);refine⟨ns',a',f1,?_⟩;rw[show decide ((100:Int)<((a * (2+zap % 2)* 2 ^ (c - 1 - j):Nat):Int))=false from qdC (by omega),qdA,qaa];exact f2
  have:j=c:=by omega
  subst this;exact⟨ns,a,h1,by rw[zam,qdC hj,qdA]⟩
structure L2Ok (num:List Nat) (g c:Nat) (cs:List Nat) (i:Nat) (ns:List NN):Prop where
 len:ns.length=c
 zaK:ns.map (·.c)=cs
 done:∀(k v:Nat) (x:NN),k<i->num[k]? = some v->ns[v]? = some x->NodeOk num g cs k x
 left:∀(k v:Nat) (x:NN),i<=k->num[k]? = some v->ns[v]? = some x->x.ps=[]/\x.rows=[]
theorem zhz{m:Nat}(hm:1<=m):∀ {xs:List Nat},(∀ x∈xs,x<=m)->zab xs<=m ^ xs.length
 | [],_=>qap 1
 | x :: xs,h=>by
  have ih:=zhz hm (xs:=xs) λy hy=>h y (qai _ hy)
  rw[qaP,Nat.pow_succ,qaX];exact qbG (h x qam) ih
theorem ztf(h:xs.Nodup){j w:Nat}(hi:xs[i]? = some v)(hj:xs[j]? = some w)(hne:i≠j):v≠w:=by
 obtain⟨h1,h2⟩:=qab.1 hi;obtain⟨h3,h4⟩:=qab.1 hj;intro he;rcases Nat.lt_or_gt_of_ne hne with hlt | hlt
 .exact qbn.1 h i j h1 h3 hlt (by rw[h2,h4,he])
 exact qbn.1 h j i h3 h1 hlt (by rw[h2,h4,he])
theorem zxO{d:DraftN}(hd:DraftOk d){num:List Nat}{c N:Nat}{cs:List Nat}(hc:zme d=c)(hp:PermOk c num)(hs:∀ x∈cs,1<=x/\x<=3)(hN:1025<=N):∀(n i:Nat) (ns:List NN),L2Ok num (1+d.grain % 60) c cs i ns->i<=c->c - i<n ->
  ∃ ns':List NN,L2Ok num (1+d.grain % 60) c cs c ns'/\zbG N (zco d) (iL num) n (i:Int) (ns.map nd)=some (ns'.map nd)
 | 0,_,_,_,_,h=>absurd h (qak _)
 | n+1,i,ns,h1,h2,h3=>by
  have hc5:c<=5:=by rw[<- hc]; exact qcM _ _
  unfold zbG;rw[zo0,hc];by_cases hi:i<c
  .rw[zam,qdB hi,qdz];obtain⟨zap,parents,w,hcard,e⟩:=zmW hd (j:=i);rw[e,qaa];simp only[];have hin:i<num.length:=by rw[hp.len]; exact hi
   have hget:num[i]? = some num[i]:=qac hin;have hlen:=h1.len;have hcl:cs.length=c:=by rw[<- h1.zaK,qay,h1.len]
   have hv:num[i]<ns.length:=by rw[h1.len]; exact hp.lt _ (qao hin)
   obtain⟨b1,b2⟩:=h1.left i num[i] ns[num[i]] (qap _) hget (qac hv);obtain⟨qs,e2,hq⟩:=zys (num:=num) (ps8:=(parents:Int)) (i:=i) (ns:=ns) (v:=num[i]) (by omega) (by rw[hp.len]; omega) (by omega) hp.nod hv b1;rw[h1.len]at e2 hq;have hg:w64 (1+w64 ((zco d).grain.tmod 60))=((1+d.grain % 60:Nat):Int):=by
    rw[show((zco d).grain.tmod 60)=((d.grain % 60:Nat):Int)from rfl,zaJ (by omega),show(1:Int)+((d.grain % 60:Nat):Int)=((1+d.grain % 60:Nat):Int) by omega,zaJ (by omega)]
   have hset:(ns.set num[i] ⟨ns[num[i]].c,qs,ns[num[i]].rows⟩)[num[i]]'(by simpa using hv)=⟨ns[num[i]].c,qs,ns[num[i]].rows⟩:=by simp
   have hcs1:(ns.set num[i] ⟨ns[num[i]].c,qs,ns[num[i]].rows⟩).map (·.c)=cs:=by rw[zjn (x:=⟨ns[num[i]].c,qs,ns[num[i]].rows⟩) hv rfl,h1.zaK]
   have hcv:1<=ns[num[i]].c/\ns[num[i]].c<=3:=hs _ (by rw[<- h1.zaK]; exact qaz.2 ⟨_,qao hv,rfl⟩);have hco:zdY (ns.set num[i] ⟨ns[num[i]].c,qs,ns[num[i]].rows⟩) qs=qs.map λp=>cs.getD p 0:=by unfold zdY; rw[hcs1]
   have hqs:∀ x∈(qs.map λp=>cs.getD p 0),1<=x/\x<=3:=by
    intro x hx;obtain⟨p,hpq,rfl⟩:=qaz.1 hx;have hpl:p<cs.length:=by rw[hcl]; exact hq.lt p hpq
    refine hs _ ?_;simp[hpl]
   have hprod:zab (qs.map λp=>cs.getD p 0)<=3 ^ 3:=by
    refine qaq (zhz (m:=3) (by omega) λx hx=>(hqs x hx).2) ?_;rw[qay];exact qbV (by decide) hq.len
   obtain⟨rows,r1,r2⟩:=zyS (g:=1+d.grain % 60) (N:=N) (W:=w) (ns:=ns.set num[i] ⟨ns[num[i]].c,qs,ns[num[i]].rows⟩) (v:=num[i]) (by omega) (by simp; omega) (by simpa using hv)
    (by rw[hset]; intro p hpq; rw[qat,h1.len]; exact hq.lt p hpq) (by rw[hset]; have:=hq.len; simp; omega) (by rw[hset]; exact hcv.1) (by rw[hset]; have:=hcv.2; simp; omega)
    (by rw[hset,hco]; exact λx hx=>(hqs x hx).1) (by rw[hset,hco]; exact qaq hprod (by decide)) (by rw[hset]; exact b2) hN
   simp only[hset,hco,qb3]at r1 r2
   obtain⟨ns',f1,f2⟩:=zxO hd hc hp hs hN n (i+1) (ns.set num[i] ⟨ns[num[i]].c,qs,rows⟩) {
    len:=by simpa using h1.len
    zaK:=by rw[zjn (x:=⟨ns[num[i]].c,qs,rows⟩) hv rfl,h1.zaK]
    done:=λk v x hk hkv hx=>by
     by_cases hki:k=i
     .subst hki;rw[hget]at hkv;have:=qaf hkv;subst this;rw[qaE hv]at hx;have:=qaf hx;subst this;exact⟨by rw[hcl]; exact hq,r1⟩
     rw[qar (ztf hp.nod hget hkv (by omega))]at hx;exact h1.done k v x (by omega) hkv hx
    left:=λk v x hk hkv hx=>by
     rw[qar (ztf hp.nod hget hkv (by omega))]at hx
     exact h1.left k v x (by omega) hkv hx } hi (by omega)
   refine⟨ns',f1,?_⟩;rw[zbf hin,qaa,e2,qaa,hg,r2,qaa,zah (by omega),f2]
  have:i=c:=by omega
  subst this;exact⟨ns,h1,by rw[zam,qdC hi,qdA]⟩
theorem zxd{d:DraftN}(hd:DraftOk d)(hN:1025<=N):
  ∃(num:List Nat) (ns:List NN),NetOk num (1+d.grain % 60) ns/\ns.length<=5/\zby N (zco d)=some ⟨((1+d.grain % 60:Nat):Int),ns.map nd⟩:=by
 have hc5:zme d<=5:=qcM _ _;have hc1:1<=zme d:=by unfold zme; omega
 obtain⟨num,hp,e1⟩:=zz3 (c:=zme d) (N:=N) (os:=d.order) (wh:=0) hc5 (by omega) hd.order;have hpl:=hp.len;have h0:∀ v,v<zme d->(List.replicate (zme d) (⟨0,[],[]⟩:NN))[v]? = some ⟨0,[],[]⟩:=λv hv=>by simp[hv]
 obtain⟨ns1,a,h1,e2⟩:=zxt hd rfl hp (zme d+2) 0 1 (List.replicate (zme d) ⟨0,[],[]⟩) {
  len:=by simp
  bare:=λx hx=>by rw[(qci.1 hx).2]; exact⟨rfl,rfl⟩
  prod:=by
   rw[qcT];generalize zme d=c;induction c with
   | zero=>rfl
   | succ c ih=>rw[qa1]; simp only[zmj,qdw]at ih ⊢; rw[ih]; rfl
  low:=by
   have:2 ^ (zme d - 0)<=2 ^ 5:=qbV (by decide) (by omega);omega
  done:=λk v hk hkv=>absurd hk (qak _)
  left:=λk v hk hkv=>⟨_,h0 v (hp.lt v (qaC hkv)),rfl⟩ } (qau _) (by omega)
 have hcards:∀ x∈ns1,2<=x.c/\x.c<=3:=by
  intro x hx;obtain⟨v,hv⟩:=qbU hx;have hvl:v<zme d:=by rw[<- h1.len]; exact(qab.1 hv).1
  obtain⟨k,hk⟩:=qbU (hp.all v hvl);obtain⟨y,g1,g2⟩:=h1.done k v (by rw[<- hpl]; exact(qab.1 hk).1) hk;rw[hv]at g1;have:=qaf g1;subst this;exact g2
 have hcs:∀ x∈ns1.map (·.c),1<=x/\x<=3:=by
  intro x hx;obtain⟨y,hy,rfl⟩:=qaz.1 hx;have:=hcards y hy;exact⟨by omega,this.2⟩
 obtain⟨ns2,h2,e3⟩:=zxO hd rfl hp hcs hN (zme d+2) 0 ns1 ⟨h1.len,rfl,λk v x hk=>absurd hk (qak _),λk v x hk hkv hx=>h1.bare x (qaC hx)⟩ (qau _) (by omega);have hl2:=h2.len;have hlow:=h1.low;refine⟨num,ns2,⟨by omega,by omega,by omega,by omega,?_,?_,by rw[h2.len]; exact hp,?_⟩,by omega,?_⟩
 .intro x hx;have:=hcs x.c (by rw[<- h2.zaK]; exact qaz.2 ⟨x,hx,rfl⟩);omega
 .rw[h2.zaK,<- zp3 λx hx=>(hcs x hx).1,h1.prod];rw[qcb,Nat.pow_zero]at hlow;omega
 .intro j v x hj hx;rw[h2.zaK];exact h2.done j v x (by rw[<- hpl]; exact(qab.1 hj).1) hj hx
 have hg:w64 (1+w64 ((zco d).grain.tmod 60))=((1+d.grain % 60:Nat):Int):=by
  rw[show((zco d).grain.tmod 60)=((d.grain % 60:Nat):Int)from rfl,zaJ (by omega),show(1:Int)+((d.grain % 60:Nat):Int)=((1+d.grain % 60:Nat):Int) by omega,zaJ (by omega)]
 have hz:List.replicate (zme d) (S_api_Node.mk 0 [] [])=(List.replicate (zme d) (⟨0,[],[]⟩:NN)).map nd:=by rw[qcT]; rfl
 have e2':=e2;have e3':=e3;rw[show((0:Nat):Int)=0 from rfl]at e2' e3';rw[show((1:Nat):Int)=1 from rfl]at e2';unfold zby
 rw[zo0,zdh (by omega),qaa,zdh (by omega),qaa,show(zco d).order=iL d.order from rfl,e1,qaa,zaq,hz,e2',qaa,e3',qaa,hg]
def zbi(xs:List Nat):Nat:=xs.foldl (λm p=>m ||| 2 ^ p) 0
theorem zqM(xs:List Nat)(p:Nat):zbi (xs ++ [p])=zbi xs ||| 2 ^ p:=by simp[zbi]
theorem zm8:∀(xs:List Nat) (m i:Nat),(xs.foldl (λm p=>m ||| 2 ^ p) m).testBit i=(m.testBit i || decide (i∈xs))
 | [],m,i=>by simp
 | x :: xs,m,i=>by
  rw[qb4,zm8 xs,qbj,qbf,Bool.or_assoc];congr 1
  by_cases h:x=i
  .simp[h]
  simp[h,show ¬ i=x from λq=>h q.symm]
theorem zcp(xs:List Nat)(i:Nat):(zbi xs).testBit i=decide (i∈xs):=by
 unfold zbi; rw[zm8]; simp
theorem zqm:∀(xs:List Nat) (m:Nat),m<18446744073709551616->(∀ x∈xs,x<64)->xs.foldl (λm p=>m ||| 2 ^ p) m<18446744073709551616
 | [],m,h,_=>h
 | x :: xs,m,h,hx=>zqm xs _ (qbc (n:=64) h (qa0 (by decide) (hx x qam))) λy hy=>hx y (qai _ hy)
theorem zdX{xs:List Nat}(h:∀ x∈xs,x<64):zbi xs<18446744073709551616:=zqm xs 0 (by decide) h
def Sub(a b:Nat):Prop:=∀ i,a.testBit i=true->b.testBit i=true
theorem ztX(ha:a<18446744073709551616)(hb:b<18446744073709551616):diff a b=0↔Sub a b:=by
 constructor
 .intro h i hi;have:=zgN (i:=i) ha hb;rw[h,hi]at this;simpa using this
 intro h;apply qbX;intro i;rw[zgN ha hb,Nat.zero_testBit];cases hi:a.testBit i with
 | false=>rfl
 | true=>rw[h i hi]; rfl
theorem ziS{cs ps:List Nat}{nodes:S_api_Net}{sets order:List Int}{x:S_api_Node}(hx:x.parents=iL ps)(hp:Pl cs.length ps)(hl:ps.length<=8)(hc:∀ p∈ps,1<=cs.getD p 0):∀(n i a:Nat),i<=ps.length ->
  a * zab ((ps.drop i).map λp=>cs.getD p 0)<=65536->ps.length - i<n ->
  za7 x ⟨nodes,iL cs,sets,order⟩ n (a:Int) (i:Int)=some ((a * zab ((ps.drop i).map λp=>cs.getD p 0):Nat):Int)
 | 0,_,_,_,_,h=>absurd h (qak _)
 | n+1,i,a,h1,h2,h3=>by
  unfold za7;rw[hx,zak];by_cases hi:i<ps.length
  .have e2:a * zab ((ps.drop i).map λp=>cs.getD p 0)=a * cs.getD ps[i] 0 * zab ((ps.drop (i+1)).map λp=>cs.getD p 0):=by
    rw[qas hi]; exact(qbd _ _ _).symm
   rw[e2]at h2;have hb:ps[i]<cs.length:=hp _ (qao hi);have hq:1<=zab ((ps.drop (i+1)).map λp=>cs.getD p 0):=zdQ λx hx=>by
    obtain⟨p,hp1,rfl⟩:=qaz.1 hx;exact hc p (qcC hp1)
   have hle:a * cs.getD ps[i] 0<=65536:=qaq (qa6 _ hq) h2;have he:cs[ps[i]]=cs.getD ps[i] 0:=by simp[hb]
   rw[zam,qdB hi,qdz,zbf hi,qaa,zbf hb,qaa,he,<- qbo,zaJ (by omega),zah (by omega),
    ziS hx hp hl hc n (i+1) _ hi h2 (by omega),e2]
  rw[zam,qdC hi,qdA,qaY (by omega)];simp[zab]
theorem znN{y:Int×List Int}{zs:List Nat}(hy:y.2=iL zs)(hl:zs.length<=8):∀(n i r:Nat),i<=zs.length->(zs.drop i).sum<=r->r<=65536->zs.length - i<n ->
  zaC y n (r:Int) (i:Int)=some (.go ((r - (zs.drop i).sum:Nat):Int))
 | 0,_,_,_,_,_,h=>absurd h (qak _)
 | n+1,i,r,h1,h2,hr,h3=>by
  unfold zaC;rw[hy,zak];by_cases hi:i<zs.length
  .have e:(zs.drop i).sum=zs[i]+(zs.drop (i+1)).sum:=by rw[qas hi,qcf]
   rw[e]at h2
   rw[zam,qdB hi,qdz,zbf hi,qaa,show decide (((zs[i]:Nat):Int)<0)=false from qdC (by omega),qdA,qaa,
    show decide ((r:Int)<((zs[i]:Nat):Int))=false from qdC (by omega),qdA,show((r:Int) - ((zs[i]:Nat):Int))=((r - zs[i]:Nat):Int) by omega,zaJ (by omega),zah (by omega),
    znN hy hl n (i+1) _ hi (by omega) (by omega) (by omega),e,Nat.sub_sub]
  rw[zam,qdC hi,qdA,qaY (by omega)];simp
theorem znE{g c:Nat}{nw:S_net_network}{x:S_api_Node}(hg:nw.net.grain=(g:Int))(hg2:g<=60)(hc:x.zap=(c:Int))(hc8:c<=8):∀(L:List (Int×List Int)),(∀ y∈L,∃ zs:List Nat,y.2=iL zs/\zs.length=c/\zs.sum=g)->
  zaw nw x L=some (.go ())
 | [],_=>rfl
 | y :: L,h=>by
  obtain⟨zs,h1,h2,h3⟩:=h y qam;unfold zaw;have e:=znN h1 (by omega) (zs.length+2) 0 g (qau _) (by rw[qa9]; omega) (by omega) (by omega);rw[qa9,h3,qcb,show((0:Nat):Int)=0 from rfl]at e;rw[hg,h1,zak,zaq,e,qaa];simp only[];rw[hc,h2,show((c:Int)==(c:Int))=true by simp,qdz,qaa,show(!((0:Int)== 0))=false from rfl,qdA];exact znE hg hg2 hc hc8 L λy hy=>h y (qai _ hy)
theorem zvv{cs:List Nat}{nodes:List S_api_Node}{sets order:List Int}{x:NN}(hg2:g<=60)(hp:Pl cs.length x.ps)(hl:x.ps.length<=8)(hc:∀ p∈x.ps,1<=cs.getD p 0)(hc8:x.c<=8)(hm:zab (x.ps.map λp=>cs.getD p 0)<=65536)(hr:RowsOk g x.c (zab (x.ps.map λp=>cs.getD p 0)) x.rows):zaR ⟨⟨(g:Int),nodes⟩,iL cs,sets,order⟩ (nd x)=some true:=by
 unfold zaR;have e:=ziS (x:=nd x) (nodes:=⟨(g:Int),nodes⟩) (sets:=sets) (order:=order) rfl hp hl hc (x.ps.length+2) 0 1 (qau _) (by simpa using hm) (by omega);rw[show((0:Nat):Int)=0 from rfl,show((1:Nat):Int)=1 from rfl,qa9,qbl]at e;have hrl:(nd x).rows.length=x.rows.length:=by simp[nd]
 rw[show(nd x).parents=iL x.ps from rfl,zak,zaq,e,qaa,hrl,hr.len,show(((zab (x.ps.map λp=>cs.getD p 0):Nat):Int)==((zab (x.ps.map λp=>cs.getD p 0):Nat):Int))=true by simp,qdz];unfold zf0;rw[qaa];have hs:zgm (nd x).rows=some ():=by
  unfold zgm;rw[if_pos (by rw[hrl,hr.len]; omega)]
 rw[hs,qaa,znE (g:=g) (c:=x.c) rfl hg2 rfl hc8,qaa];intro y hy;unfold zvB at hy;obtain⟨q,hq,rfl⟩:=qaz.1 hy;have hq1:q.1∈(nd x).rows:=by
  have:=List.mem_zipIdx' hq;rw[this.2]; exact qao _
 obtain⟨zs,hz,hz2⟩:=qaz.1 hq1;exact⟨zs,hz2.symm,hr.row zs hz⟩
theorem zko(cs:List Nat):∀(i:Nat) (h:i<cs.length),zab (cs.drop i)=cs[i] * zab (cs.drop (i+1)):=by
 intro i h;rw[qas h]; rfl
theorem zxT{f:Fc}(hf:FcOk f){us:List Nat}(hs:Sel f us):∀(n i a:Nat),i<=us.length->us.length - i<n->a * zab ((cof f us).drop i)<=4096->1<=a ->
  za3 (iL us) f.T n (a:Int) (i:Int) (iL ((cof f us).take i ++ List.replicate (us.length - i) 0))=some (((a * zab ((cof f us).drop i):Nat):Int),iL (cof f us))
 | 0,_,_,_,h,_,_=>absurd h (qak _)
 | n+1,i,a,hi,hn,ha,h1=>by
  have hl:=zpk hf hs;have hcl:(cof f us).length=us.length:=by simp[cof]
  unfold za3;rw[zak];rcases qbh i us.length with h3 | h3
  .have h3c:i<(cof f us).length:=by omega
   have hcc:=(zgv hf hs).zap (cof f us)[i] (qao h3c);have hpos:0<zab ((cof f us).drop (i+1)):=zb1 λc hc=>(zgv hf hs).zap c (qcC hc)
   have e0:=zko (cof f us) i h3c;have ea:a * zab ((cof f us).drop i)=a * (cof f us)[i] * zab ((cof f us).drop (i+1)):=by rw[e0,qbd]
   have hle:a * (cof f us)[i]<=4096:=qaq (qa6 _ hpos) (ea ▸ ha);have ih:=zxT hf hs n (i+1) (a * (cof f us)[i]) h3 (by omega) (ea ▸ ha) (qdc (by omega) (by omega));have ht:((cof f us).take i).length=i:=by simp; omega
   have e:List.replicate (us.length - i) 0=0 :: List.replicate (us.length - (i+1)) 0:=by
    rw[show us.length - i=(us.length - (i+1))+1 by omega,qa1]
   rw[qcA h3c,qa5,qbP]at ih;obtain⟨k,hk⟩:=zl5 (hs.mem us[i] (qao h3));have ec:at_ f.vs f.cs us[i]=(cof f us)[i]:=by simp[cof]
   rw[zAi h3,qdz,zbf h3,qaa,znZ hf,qaa,zey,hk,show f.T.factor=f.D from rfl,zrG hf hk,qaa,ec,e,zeA ht,qaa,zgV ht,qaa,<- qbo,zaJ (by omega),zah (by omega),ea];exact ih
  obtain rfl:i=us.length:=by omega
  rw[zAm,qdA,qcb,qdd,qaQ,qaO (by omega),qcQ (by omega),show zab ([]:List Nat)=1 from rfl,qde]
theorem zjd{g:Nat->Nat}{p:Nat}:∀ {vs:List Nat} {v k:Nat},vs.Nodup->pos vs v=some k->(vs.map g).set k p=vs.map λu=>bif v == u then p else g u
 | [],_,_,_,h=>by cases h
 | u :: us,v,k,hn,h=>by
  obtain⟨h1,h2⟩:=qbs.1 hn;rw[show pos (u :: us) v=bif u == v then some 0 else(pos us v).map (· + 1)from rfl]at h;cases hb:(u == v)with
  | true=>
   rw[hb,qdz]at h;cases h;have:u=v:=by simpa using hb
   subst this;rw[qaF,qaF,qcu,qdD,qdz];refine congrArg (p :: ·) (qbx λx hx=>?_);rw[show(u == x)=false from qdI (λe=>h1 (e ▸ hx)),qdA]
  | false=>
   rw[hb,qdA]at h;cases hp:pos us v with
   | none=>rw[hp]at h; cases h
   | some j=>
    rw[hp]at h;cases h;rw[qaF,qaF,qcv,zjd h2 hp,show(v == u)=false from qdI (λe=>ne_of_beq_false hb e.symm),qdA]
theorem zyc{f:Fc}(hf:FcOk f){us:List Nat}(hs:Sel f us):∀(k n:Nat),k<=us.length->k<n ->
  zaQ (iL us) f.T (iL (cof f us)) n ((zab ((cof f us).drop k):Nat):Int) ((k:Int) - 1) (iL (f.vs.map (stp (us.drop k) ((cof f us).drop k))))=some (iL (f.vs.map (stp us (cof f us))))
 | _,0,_,h=>absurd h (qak _)
 | 0,n+1,_,_=>by
  unfold zaQ;rw[show decide ((0:Int)<=((0:Nat):Int) - 1)=false from rfl,qdA,qa9,qa9]
 | k+1,n+1,hk,hn=>by
  have hl:=zpk hf hs;have hD:=zgv hf hs;have hcl:(cof f us).length=us.length:=by simp[cof]
  have h3:k<us.length:=hk;have h3c:k<(cof f us).length:=by omega
  have ih:=zyc hf hs k n (by omega) (by omega);have e0:=zko (cof f us) k h3c;have hle:zab ((cof f us).drop k)<=4096:=qaq (zhy (λc hc=>(hD.zap c hc).1) k) hD.prod;obtain⟨j,hj⟩:=zl5 (hs.mem us[k] (qao h3));obtain⟨hj2,_⟩:=zdm hj;have em:(f.vs.map (stp (us.drop (k+1)) ((cof f us).drop (k+1)))).set j (zab ((cof f us).drop (k+1)))=f.vs.map (stp (us.drop k) ((cof f us).drop k)):=by
   rw[zjd (zbc hf.inc) hj,qas h3,qas h3c];rfl
  unfold zaQ;rw[pred_succ,zE1,qdz,zbf h3,qaa,znZ hf,qaa,zey,hj,show ixZ (some j)=(j:Int)from rfl,zgt (by simpa using hj2),qaa,zEv (by simpa using hj2),qaa,zbf h3c,qaa,<- qbo,qaX,<- e0,zaJ (by omega),zfk (by omega) (by omega),em];exact ih
theorem zxK{f:Fc}(hf:FcOk f){us:List Nat}(hs:Sel f us){x:Int}:∀(m i:Nat) (l:List Nat),i+m=zab f.cs->l.length=zab (cof f us)->(∀ x∈l,x<=zdW)->
  ∃ z,za2 f.T x (zmK f.cs (f.vs.map (stp us (cof f us))) i m) (iL l)=some (match ziI false f us m i l with | some l'=>.go (iL l')| none=>.brk z)
 | 0,i,l,_,_,_=>⟨[],rfl⟩
 | m+1,i,l,h,hl,hb=>by
  have hi:i<zab f.cs:=by omega
  have hk:=zAY hf hs hi;have hkl:ix f us i<l.length:=by omega
  have g1:=zzE hb (ix f us i);have g2:=Fc.zxS hf i;have e:=zyO (b:=false) g1 g2;rw[qdA]at e;rw[zkk,zAH hf hs];have es:zfD ((l.getD (ix f us i) 0:Nat):Int) ((f.get i:Nat):Int)=some (((gop false (l.getD (ix f us i) 0) (f.get i):Nat):Int),decide (gop false (l.getD (ix f us i) 0) (f.get i)<=zdW)):=by
   unfold zfD;rw[e];refine congrArg (λb:Bool=>some (((gop false (l.getD (ix f us i) 0) (f.get i):Nat):Int),b)) (decide_eq_decide.2 ⟨λh=>?_,λh=>?_⟩)
   .show _<=4611686018427387903; omega
   have:_<=4611686018427387903:=h; omega
  have e1:∀ ys,za2 f.T x (((i:Int),((ix f us i:Nat):Int),iL (dig f.cs i)):: ys) (iL l)=bif decide (gop false (l.getD (ix f us i) 0) (f.get i)<=zdW)then za2 f.T x ys (iL (l.set (ix f us i) (gop false (l.getD (ix f us i) 0) (f.get i))))else some (.brk (iL (l.set (ix f us i) (gop false (l.getD (ix f us i) 0) (f.get i))))):=by
   intro ys;show(zaz (iL l) ((ix f us i:Nat):Int)).bind _=_;rw[zgt hkl,qaa];simp only[];rw[show zaz f.T.factor.w (i:Int)=some ((f.get i:Nat):Int)from zCz hf hi,qaa,es,qaa];simp only[];rw[zEv hkl,qaa]
  rw[e1];unfold ziI;cases hd:decide (gop false (l.getD (ix f us i) 0) (f.get i)<=zdW)with
  | false=>exact⟨_,rfl⟩
  | true=>
   rw[qdz,qdz];refine zxK hf hs m (i+1) _ (by omega) (by rw[qat]; exact hl) λx hx=>?_
   rcases qbF hx with h1 | h1
   .exact hb x h1
   rw[h1]; exact qdG hd
theorem zzA(f:Fc):f.vs.map (stp [] [])=List.replicate f.vs.length 0:=by
 rw[List.eq_replicate_iff];refine⟨by simp,λx hx=>?_⟩;obtain⟨v,_,rfl⟩:=qaz.1 hx;simp[stp]
variable{f:Fc}{us:List Nat}
theorem zBS(hf:FcOk f)(hs:Sel f us)(v:Nat):stp us (cof f us) v<=4096:=by
 have hD:=zgv hf hs;rw[zlj hD.len];cases hp:pos us v with
 | none=>exact qau _
 | some k=>
  simp only;by_cases h:k<(zaB (cof f us)).length
  .rw[qae,qac h];exact zqo (λc hc=>(hD.zap c hc).1) hD.prod _ (qao h)
  rw[qae,qaI (by omega)];exact qau _
theorem zwW(hf:FcOk f)(hs:Sel f us):zb2 f.T (iL us)=some (match gat false f us with | some l=>(⟨iL us,iL (cof f us),iL l⟩,0)| none=>(noF,6)):=by
 have hl:=zpk hf hs;have hD:=zgv hf hs;have hp:=hD.prod;have hpf:=hf.prod;have hfl:=hf.le;have hfl2:=hf.len;have hcl:(cof f us).length=us.length:=by simp[cof]
 unfold zb2;have h1:=zxT hf hs (us.length+2) 0 1 (qau _) (by omega) (by rw[qa9]; omega) (qap _);rw[qbt,qbe,qdg,zh2,qa9,qbl]at h1;rw[zak,zdh (by omega),qaa,zaq,show za3 (iL us) f.T (us.length+2) 1 0 (List.replicate us.length 0)=_ from h1,qaa];simp only[];rw[zdh (by omega),qaa,show f.T.factor.vars=iL f.vs from rfl,zak,zdh (by omega),qaa,zfk (by omega) (by omega),show(((us.length:Int) - 1) - 0+2).toNat=us.length+1 by omega];have h2:=zyc hf hs us.length (us.length+1) (qap _) (by omega);rw[qcm,qcQ (by omega),zzA,zh2,show zab ([]:List Nat)=1 from rfl]at h2;rw[show zaQ (iL us) f.T (iL (cof f us)) (us.length+1) 1 ((us.length:Int) - 1) (List.replicate f.vs.length 0)=_ from h2,qaa,znw,qaa];simp only[];rw[show f.T.factor.zaK=iL f.cs from rfl,zxV hf.zap hf.le hf.prod (by rw[qay,hf.len]) (λs hs2=>by obtain⟨v,_,rfl⟩:=qaz.1 hs2; exact zBS hf hs v),qaa];obtain⟨z,h3⟩:=zxK hf hs (x:=((zab (cof f us):Nat):Int)) (zab f.cs) 0 (List.replicate (zab (cof f us)) 0) (by omega) (by simp) zqb;rw[<- zh2,h3,qaa];unfold gat;cases ziI false f us (zab f.cs) 0 (List.replicate (zab (cof f us)) 0)<;> rfl
def rest(f:Fc)(v:Nat):List Nat:=f.vs.filter λu=>!(u == v)
theorem zgX(hf:FcOk f)(v:Nat):Sel f (rest f v):=⟨qbA _ hf.inc,λu hu=>(qaM.1 hu).1⟩
theorem zoQ:∀ {vs:List Nat},v ∉ vs->vs.filter (λu=>!(u == v))=vs:=λ{vs} h=>List.filter_eq_self.2 λu hu=>by
 rw[show(u == v)=false from qdI (λe=>h (e ▸ hu))]; rfl
theorem zo5:∀ {vs:List Nat} {v k:Nat},vs.Nodup->pos vs v=some k->vs.take k ++ vs.drop (k+1)=vs.filter λu=>!(u == v)
 | [],_,_,_,h=>by cases h
 | u :: us,v,k,hn,h=>by
  obtain⟨h1,h2⟩:=qbs.1 hn;rw[show pos (u :: us) v=bif u == v then some 0 else(pos us v).map (· + 1)from rfl]at h;cases hb:(u == v)with
  | true=>
   rw[hb,qdz]at h;cases h;have:u=v:=by simpa using hb
   subst this;rw[qcJ (by simp),zoQ h1];rfl
  | false=>
   rw[hb,qdA]at h;cases hp:pos us v with
   | none=>rw[hp]at h; cases h
   | some j=>
    rw[hp]at h;cases h;rw[qcK (by rw[hb]; rfl),<- zo5 h2 hp];rfl
theorem zEn(h:k<xs.length)(hl:xs.length<1000):zAr (iL xs) (k:Int) (w64 ((k:Int)+1))=some (iL (xs.take k ++ xs.drop (k+1))):=by
 rw[zah (by omega)];unfold zAr;rw[if_pos ⟨⟨by omega,by omega,by rw[zak]; omega⟩,by rw[zak]; omega⟩,qaG,qaG];simp[iL]
def zES(o:Option (List Nat))(f:Fc)(us:List Nat):S_api_Factor×Int:=match o with
 | some l=>(⟨iL us,iL (cof f us),iL l⟩,0)
 | none=>(noF,6)
theorem zmH(hf:FcOk f)(hp:pos f.vs v=some k):zfW 8 (iL f.vs)=some (iL f.vs)/\zAr (iL f.vs) (k:Int) (w64 ((k:Int)+1))=some (iL (rest f v)):=by
 have h1:=hf.le;have h2:=hf.len;obtain⟨hk,_⟩:=zdm hp;refine⟨zir (by rw[zak]; omega),?_⟩;rw[zEn hk (by omega),zo5 (zbc hf.inc) hp];rfl
theorem zC7(hf:FcOk f)(hp:pos f.vs v=some k):zdk f.D (v:Int)=some (zES (gat false f (rest f v)) f (rest f v)):=by
 obtain⟨h1,h2⟩:=zmH hf hp;unfold zdk ze2;rw[zpN hf,qaa];simp only[];rw[show((0:Int)== 0)=true from rfl,qdz,znZ hf,qaa,zey,hp,show ixZ (some k)=(k:Int)from rfl,show decide ((k:Int)<0)=false from qdC (by omega),qdA,show f.T.factor.vars=iL f.vs from rfl,h1,qaa,h2,qaa,zwW hf (zgX hf v),qaa];cases gat false f (rest f v)<;> rfl
def gF(f:Fc)(us l:List Nat):Fc:=⟨us,cof f us,l⟩
theorem zCh(hf:FcOk f){l:List Nat}(hs:Sel f us){b:Bool}(h:gat b f us=some l):FcOk (gF f us l):=by
 have hD:=zgv hf hs;exact⟨hD.len,hD.le,hD.zap,hD.prod,(zm2 h).trans (by simp[gF]),hs.inc,λv hv=>hf.var v (hs.mem v hv),zqQ zqb h⟩
def zhC:List Nat->Nat->Nat->Nat->Nat
 | [],_,_,i=>i
 | _ :: cs,0,p,i=>p * zab cs+i
 | _ :: cs,k+1,p,i=>(i / zab (cs.eraseIdx k))* zab cs+zhC cs k p (i % zab (cs.eraseIdx k))
theorem zeW{cs:List Nat}(h:∀ c∈cs,1<=c/\c<=8)(k:Nat):∀ c∈cs.eraseIdx k,1<=c/\c<=8:=λc hc=>h c (List.mem_of_mem_eraseIdx hc)
theorem zlv:∀ {cs:List Nat} {k p i:Nat},(∀ c∈cs,1<=c/\c<=8)->(hk:k<cs.length)->p<cs[k]->i<zab (cs.eraseIdx k)->zhC cs k p i<zab cs
 | [],k,_,_,_,hk,_,_=>by simp at hk
 | c :: cs,0,p,i,_,_,hp,hi=>by
  have h1:(p+1)* zab cs<=c * zab cs:=qav _ hp;have h2:i<zab cs:=hi;show p * zab cs+i<c * zab cs;rw[qaN]at h1;omega
 | c :: cs,k+1,p,i,hc,hk,hp,hi=>by
  have hc2:=λd hd=>hc d (qai c hd)
  have hi2:i<c * zab (cs.eraseIdx k):=hi;have hq:0<zab (cs.eraseIdx k):=zb1 (zeW hc2 k);have h1:=zlv hc2 (by simpa using hk) hp (qbk i hq);have h2:i / zab (cs.eraseIdx k)<c:=qbW (by rwa [qaX]);have h3:(i / zab (cs.eraseIdx k)+1)* zab cs<=c * zab cs:=qav _ h2;show i / zab (cs.eraseIdx k)* zab cs+zhC cs k p (i % zab (cs.eraseIdx k))<c * zab cs;rw[qaN]at h3;omega
theorem dm1{P:Nat}(h:b<P):(a * P+b) / P=a:=by
 rw[qb2,qcx _ _ (by omega),qcc h,qaR]
theorem dm2{P:Nat}(h:b<P):(a * P+b) % P=b:=by
 rw[qb2,qbM,qbm h]
theorem zlp:∀ {cs:List Nat} {k p i:Nat},(∀ c∈cs,1<=c/\c<=8)->(hk:k<cs.length)->p<cs[k]->i<zab (cs.eraseIdx k)->(dig cs (zhC cs k p i)).getD k 0=p/\(dig cs (zhC cs k p i)).eraseIdx k=dig (cs.eraseIdx k) i
 | [],k,_,_,_,hk,_,_=>by simp at hk
 | c :: cs,0,p,i,_,_,hp,hi=>by
  have hi2:i<zab cs:=hi;rw[show dig (c :: cs) (zhC (c :: cs) 0 p i)=(p * zab cs+i) / zab cs :: dig cs ((p * zab cs+i) % zab cs)from rfl,dm1 hi2,dm2 hi2];exact⟨rfl,rfl⟩
 | c :: cs,k+1,p,i,hc,hk,hp,hi=>by
  have hc2:=λd hd=>hc d (qai c hd)
  have hq:0<zab (cs.eraseIdx k):=zb1 (zeW hc2 k);have h1:=zlv hc2 (by simpa using hk) hp (qbk i hq);obtain⟨h2,h3⟩:=zlp hc2 (by simpa using hk) hp (qbk i hq);rw[show dig (c :: cs) (zhC (c :: cs) (k+1) p i)=(i / zab (cs.eraseIdx k)* zab cs+zhC cs k p (i % zab (cs.eraseIdx k))) / zab cs :: dig cs ((i / zab (cs.eraseIdx k)* zab cs+zhC cs k p (i % zab (cs.eraseIdx k))) % zab cs)from rfl,dm1 h1,dm2 h1];refine⟨by rw[List.getD_cons_succ]; exact h2,?_⟩;rw[qdl,h3];rfl
theorem zp6:∀ {cs:List Nat} {k p j:Nat},(∀ c∈cs,1<=c/\c<=8)->(hk:k<cs.length)->j<zab cs->(dig cs j).getD k 0=p->∃ i,i<zab (cs.eraseIdx k)/\zhC cs k p i=j
 | [],k,_,_,_,hk,_,_=>by simp at hk
 | c :: cs,0,p,j,hc,_,hj,hd=>by
  have hp:0<zab cs:=zb1 λd hd=>hc d (qai c hd)
  have e:j / zab cs=p:=hd;refine⟨j % zab cs,qbk _ hp,?_⟩;show p * zab cs+j % zab cs=j;rw[<- e,qaX,qch]
 | c :: cs,k+1,p,j,hc,hk,hj,hd=>by
  have hc2:=λd hd=>hc d (qai c hd)
  have hp:0<zab cs:=zb1 hc2;have hj2:j<c * zab cs:=hj;have e:(dig cs (j % zab cs)).getD k 0=p:=by rw[<- hd]; rfl
  obtain⟨i,h1,h2⟩:=zp6 hc2 (by simpa using hk) (qbk _ hp) e;have ha:j / zab cs<c:=qbW (by rwa [qaX]);refine⟨j / zab cs * zab (cs.eraseIdx k)+i,?_,?_⟩
  .show _<c * zab (cs.eraseIdx k);have h3:(j / zab cs+1)* zab (cs.eraseIdx k)<=c * zab (cs.eraseIdx k):=qav _ ha;rw[qaN]at h3;omega
  show(j / zab cs * zab (cs.eraseIdx k)+i) / zab (cs.eraseIdx k)* zab cs+zhC cs k p ((j / zab cs * zab (cs.eraseIdx k)+i) % zab (cs.eraseIdx k))=j;rw[dm1 h1,dm2 h1,h2,qaX,qch]
theorem zpF:∀ {cs:List Nat} {k p i:Nat},(∀ c∈cs,1<=c/\c<=8)->(hk:k<cs.length)->i<zab (cs.eraseIdx k)->dot (dig (cs.eraseIdx k) i) ((zaB cs).eraseIdx k)+p * (zaB cs).getD k 0=zhC cs k p i
 | [],k,_,_,_,hk,_=>by simp at hk
 | c :: cs,0,p,i,hc,_,hi=>by
  have h:dot (dig cs i) (zaB cs)=i:=zhX (λd hd=>hc d (qai c hd)) hi;show dot (dig cs i) (zaB cs)+p * zab cs=p * zab cs+i;omega
 | c :: cs,k+1,p,i,hc,hk,hi=>by
  have hc2:=λd hd=>hc d (qai c hd)
  have hq:0<zab (cs.eraseIdx k):=zb1 (zeW hc2 k);have ih:=zpF (p:=p) hc2 (show k<cs.length by simpa using hk) (qbk i hq);rw[qdl,show zaB (c :: cs)=zab cs :: zaB cs from rfl,qdl,List.getD_cons_succ];show i / zab (cs.eraseIdx k)* zab cs+dot (dig (cs.eraseIdx k) (i % zab (cs.eraseIdx k))) ((zaB cs).eraseIdx k)+p * (zaB cs).getD k 0=i / zab (cs.eraseIdx k)* zab cs+zhC cs k p (i % zab (cs.eraseIdx k));omega
theorem zzI{cs:List Nat}(hn:us.Nodup)(hl:us.length=cs.length):us.map (stp us cs)=zaB cs:=by
 refine qcd (by rw[qay,zf2,hl]) λi h1 h2=>?_
 have hi:i<us.length:=by simpa using h1
 have hp:∀ {xs:List Nat} {i:Nat} (hn:xs.Nodup) (h:i<xs.length),pos xs xs[i]=some i:=by
  intro xs;induction xs with
  | nil=>intro i _ h; simp at h
  | cons x xs ih=>
   intro i hn h;obtain⟨h1,h2⟩:=qbs.1 hn;cases i with
   | zero=>rw[show(x :: xs)[0]=x from rfl,show pos (x :: xs) x=bif x == x then some 0 else(pos xs x).map (· + 1)from rfl,qdD,qdz]
   | succ i=>
    have hi:i<xs.length:=by simpa using h
    rw[show(x :: xs)[i+1]=xs[i]from rfl,show pos (x :: xs) xs[i]=bif x == xs[i]then some 0 else(pos xs xs[i]).map (· + 1)from rfl,show(x == xs[i])=false from qdI (λe=>h1 (e ▸ qao hi)),qdA,ih h2 hi];rfl
 rw[qcO,zlj hl,hp hn hi];simp only;rw[qae,qac h2];rfl
theorem erase_eq(xs:List α)(k:Nat):xs.take k ++ xs.drop (k+1)=xs.eraseIdx k:=(List.eraseIdx_eq_take_drop_succ xs k).symm
theorem zfB{β:Type}(g:α->β)(xs:List α)(k:Nat):(xs.eraseIdx k).map g=(xs.map g).eraseIdx k:=by
 rw[<- erase_eq,<- erase_eq,qbw,qc0,List.map_drop]
theorem zjw(hf:FcOk f)(hp:pos f.vs v=some k):rest f v=f.vs.eraseIdx k:=by
 rw[<- erase_eq,zo5 (zbc hf.inc) hp]; rfl
theorem zhx(hf:FcOk f)(hp:pos f.vs v=some k):cof f (rest f v)=f.cs.eraseIdx k:=by
 unfold cof;rw[zjw hf hp,zfB,zm5 (zbc hf.inc) hf.len]
theorem zjZ:∀ {cs:List Nat} {k:Nat} (h:k<cs.length),zab cs=cs[k] * zab (cs.eraseIdx k)
 | [],_,h=>by simp at h
 | c :: cs,0,_=>rfl
 | c :: cs,k+1,h=>by
  have hk:k<cs.length:=by simpa using h
  have ih:=zjZ hk;show c * zab cs=cs[k] * (c * zab (cs.eraseIdx k));rw[ih,qc2]
def fixF(f:Fc)(v k p:Nat):Fc:=⟨rest f v,f.cs.eraseIdx k,(List.range' 0 (zab (f.cs.eraseIdx k))).map λj=>f.get (zhC f.cs k p j)⟩
theorem zx9{f:Fc}(hf:FcOk f){k p:Nat}{q:Int}(hk:k<f.cs.length)(hp:p<f.cs[k]):∀(m i:Nat) (ys:List Nat),i+m=zab (f.cs.eraseIdx k)->ys.length=i ->
  zd3 (f.T,0) (k:Int) (p:Int) q (zmK (f.cs.eraseIdx k) ((zaB f.cs).eraseIdx k) i m) (iL (ys ++ List.replicate m 0))=some (iL (ys ++ (List.range' i m).map λj=>f.get (zhC f.cs k p j)))
 | 0,i,ys,_,_=>by simp[zmK,zd3]
 | m+1,i,ys,h,hy=>by
  have hi:i<zab (f.cs.eraseIdx k):=by omega
  have hpf:=hf.prod;have h1:=zlv hf.zap hk hp hi;have h2:=zpF (p:=p) hf.zap hk hi;have hks:k<(zaB f.cs).length:=by rw[zf2]; exact hk
  rw[zkk];show(zaz (iL (zaB f.cs)) (k:Int)).bind _=_;rw[zgt hks,qaa];simp only[];rw[<- qbo,zaJ (by omega),<- qcX,h2,zaJ (by omega),show zaz (f.T,(0:Int)).1.factor.w ((zhC f.cs k p i:Nat):Int)=some ((f.get (zhC f.cs k p i):Nat):Int)from zCz hf h1,qaa];rw[qa1,zeA hy,qaa,zgV hy,qaa,show ys ++ f.get (zhC f.cs k p i):: List.replicate m 0=(ys ++ [f.get (zhC f.cs k p i)])++ List.replicate m 0 by simp,zx9 hf hk hp m (i+1) _ (by omega) (by simp[hy]),qcj,qaF,qa5,qbP]
theorem zyr(hf:FcOk f)(hv:pos f.vs v=some k)(hk:k<f.cs.length)(hp:p<f.cs[k]):zes f.D (v:Int) (p:Int)=some ((fixF f v k p).D,0):=by
 have hl:=hf.le;have hpf:=hf.prod;have hck:=hf.zap f.cs[k] (qao hk);have e0:=zjZ hk;have hE:zab (f.cs.eraseIdx k)<=zab f.cs:=by rw[e0]; exact qcR _ (by omega)
 obtain⟨h1,h2⟩:=zmH hf hv;have hn:=zbc hf.inc;have hrl:(rest f v).length<=100:=by
  have:=(List.length_filter_le (λu=>!(u == v)) f.vs); have:=hf.len; unfold rest; omega
 have hel:(f.cs.eraseIdx k).length<=12:=qaq (List.eraseIdx_sublist _ _).length_le hl;unfold zes;rw[zpN hf,qaa];simp only[]
 rw[show((0:Int)== 0)=true from rfl,qdz,znZ hf,qaa,zey,hv,show ixZ (some k)=(k:Int)from rfl,show decide ((k:Int)<0)=false from qdC (by omega),qdA,show decide ((p:Int)<0)=false from qdC (by omega),qdA,show f.T.factor.zaK=iL f.cs from rfl,zbf hk,qaa,show decide (((f.cs[k]:Nat):Int)<=(p:Int))=false from qdC (by omega),qaa,qdA,show f.T.factor.vars=iL f.vs from rfl,h1,qaa,h2,qaa,zir (by rw[zak]; omega),qaa,zEn hk (by omega),erase_eq,qaa,qaa,show f.T.factor.w=iL f.ws from rfl,zak,hf.size,zDA (by omega) (by show _<=4611686018427387903; omega),qaa,
  show zab f.cs / f.cs[k]=zab (f.cs.eraseIdx k) by rw[e0,Nat.mul_div_cancel_left _ (by omega)],zdh (by omega),qaa,zzh hf hrl,qaa,znw,qaa]
 simp only[];have es:(rest f v).map (stp f.vs f.cs)=(zaB f.cs).eraseIdx k:=by rw[zjw hf hv,zfB,zzI hn hf.len]
 rw[es,zxV (zeW hf.zap k) hel (by omega) (by rw[List.length_eraseIdx,List.length_eraseIdx,zf2]) (λs hs=>zqo (λc hc=>(hf.zap c hc).1) hf.prod s (List.mem_of_mem_eraseIdx hs)),qaa];have e2:=zx9 hf (q:=((zab (f.cs.eraseIdx k):Nat):Int)) hk hp (zab (f.cs.eraseIdx k)) 0 [] (by omega) rfl;rw[qbe]at e2;rw[<- zh2,e2,qaa];rfl
theorem zyi(hf:FcOk f)(hv:pos f.vs v=some k)(hk:k<f.cs.length)(p:Nat):FcOk (fixF f v k p):=by
 have hs:=zgX hf v;have hD:=zgv hf hs;rw[zhx hf hv]at hD;refine⟨hD.len,hD.le,hD.zap,hD.prod,by simp[fixF],hs.inc,λu hu=>hf.var u (hs.mem u hu),λw hw=>?_⟩;obtain⟨j,_,rfl⟩:=qaz.1 hw;exact Fc.zxS hf _
section
variable {p1 p2 p4:Int} {x9:S_api_Factor}
end
section
variable {p1 p2 p4:Int} {x y:S_api_Factor}
end
section
variable {x:S_api_Factor} {p3:Int}
end
section
variable {y4 l1:List Int} {x:S_api_Factor}
end
section
variable {r6 r8:S_api_Factor} {p3:Int} {y4:List Int}
end
def Fc.val(f:Fc)(s:Nat->Nat):Nat:=f.get (dot (f.vs.map s) (zaB f.cs))
theorem zye(f:Fc)(u ds:List Nat):f.at u ds=f.val (at_ u ds):=rfl
def Fit(f:Fc)(s:Nat->Nat):Prop:=∀ v∈f.vs,s v<at_ f.vs f.cs v
theorem ziN{s:Nat->Nat}:∀ {us cs:List Nat},us.length=cs.length->us.Nodup->(∀ c∈cs,1<=c/\c<=8)->(∀ v∈us,s v<at_ us cs v)->zcP cs (us.map s)
 | [],[],_,_,_,_=>trivial
 | [],c :: cs,h,_,_,_=>by simp at h
 | u :: us,[],h,_,_,_=>by simp at h
 | u :: us,c :: cs,hl,hn,hc,h=>by
  obtain⟨h1,h2⟩:=qbs.1 hn;have hu:=h u qam;rw[ze6,qdD,qdz]at hu;refine⟨hu,(hc c qam).2,ziN (by simpa using hl) h2 (λd hd=>hc d (qai _ hd)) λv hv=>?_⟩;have:=h v (qai _ hv)
  rwa [ze6,show(u == v)=false from qdI (λe=>h1 (e ▸ hv)),qdA]at this
variable{f:Fc}{s:Nat->Nat}
theorem Fit.below(hf:FcOk f)(h:Fit f s):zcP f.cs (f.vs.map s):=ziN hf.len (zbc hf.inc) hf.zap h
variable{i:Nat}
theorem zsC(hf:FcOk f)(hi:i<zab f.cs):f.val (at_ f.vs (dig f.cs i))=f.get i:=by
 unfold Fc.val;rw[zm5 (zbc hf.inc) (by rw[zfc,hf.len]),zhX hf.zap hi]
theorem val_congr{f:Fc}{t:Nat->Nat}(h:∀ v∈f.vs,s v=t v):f.val s=f.val t:=by
 unfold Fc.val;rw[qbx h]
theorem get_map{n:Nat}{g:Nat->Nat}(h:i<n):((List.range' 0 n).map g).getD i 0=g i:=by
 rw[qae,qac (by simpa using h)];simp
variable{g:Fc}
theorem zjq(hf:FcOk f)(hg:FcOk g)(hc:zcs (iL (ucs f g))=true)(hs:Fit (zr8 f g) s):(zr8 f g).val s=f.val s * g.val s:=by
 have hD:=zte hc;have hb:zcP (ucs f g) ((uni f g).map s):=ziN hD.len hD.nodup hD.zap hs;have hlt:=zkr hb;show((List.range' 0 (zab (ucs f g))).map λj=>f.at (uni f g) (dig (ucs f g) j)* g.at (uni f g) (dig (ucs f g) j)).getD (dot ((uni f g).map s) (zaB (ucs f g))) 0=_;rw[get_map hlt,zl0 hb,zye,zye];rw[val_congr (f:=f) (t:=s) λv hv=>zhc ((zgD hf hg).2 (.inl hv)),val_congr (f:=g) (t:=s) λv hv=>zhc ((zgD hf hg).2 (.inr hv))]
def big(b:Bool)(xs:List Nat):Nat:=xs.foldr (gop b) 0
theorem zsr(b:Bool)(x y z:Nat):gop b (gop b x y) z=gop b x (gop b y z):=by
 cases b
 .exact qby x y z
 exact Nat.max_assoc x y z
theorem zwu(b:Bool)(x y:Nat):gop b x y=gop b y x:=by
 cases b
 .exact qb2 x y
 exact Nat.max_comm x y
theorem zp1(b:Bool)(x:Nat):gop b x 0=x:=by
 cases b
 .rfl
 exact Nat.max_zero x
theorem zvV(b:Bool)(x:Nat):gop b 0 x=x:=by rw[zwu,zp1]
theorem zlW(b:Bool)(x:Nat)(xs:List Nat):big b (x :: xs)=gop b x (big b xs):=rfl
theorem zvc{b:Bool}{M:Nat}:∀ {xs:List Nat},(∀ x∈xs,x<=M)->big b xs<=xs.length * M
 | [],_=>by simp[big]
 | x :: xs,h=>by
  have h1:=h x qam;have h2:=zvc (b:=b) λy hy=>h y (qai x hy)
  rw[zlW,qaP,qaN,qbl];cases b
  .show x+big false xs<=_; omega
  show max x (big true xs)<=_; omega
def fib(f:Fc)(us:List Nat)(m i j:Nat):List Nat:=((List.range' i m).filter λi=>ix f us i == j).map f.get
theorem zwQ(f:Fc)(us:List Nat)(m i j:Nat):fib f us (m+1) i j=bif ix f us i == j then f.get i :: fib f us m (i+1) j else fib f us m (i+1) j:=by
 unfold fib;rw[qcj];cases hb:(ix f us i == j)with
 | true=>rw[qcK (p:=λi=>ix f us i == j) hb,qaF,qdz]
 | false=>rw[qcJ (p:=λi=>ix f us i == j) (by rw[hb]; decide),qdA]
theorem zkO{b:Bool}{f:Fc}{us:List Nat}{M:Nat}(hM:∀ i,f.get i<=M):∀ {m i K:Nat} {l:List Nat},(∀ j,l.getD j 0<=K)->K+m * M<=zdW->(∀ k,i<=k->k<i+m->ix f us k<l.length)->
  ∃ l',ziI b f us m i l=some l'/\l'.length=l.length/\∀ j,j<l.length->l'.getD j 0=gop b (l.getD j 0) (big b (fib f us m i j))
 | 0,i,K,l,_,_,_=>⟨l,rfl,rfl,λj _=>by
   rw[show fib f us 0 i j=[]from rfl]
   exact(zp1 b _).symm⟩
 | m+1,i,K,l,hl,hK,hx=>by
  have hi:=hx i (qap _) (by omega);have h1:=hl (ix f us i);have h2:=hM i;rw[qaN,qbl]at hK;have h3:gop b (l.getD (ix f us i) 0) (f.get i)<=K+M:=by
   cases b
   .show _+_<=_; omega
   show max _ _<=_; omega
  have hset:∀ j,(l.set (ix f us i) (gop b (l.getD (ix f us i) 0) (f.get i))).getD j 0=bif ix f us i == j then gop b (l.getD (ix f us i) 0) (f.get i)else l.getD j 0:=by
   intro j;by_cases e:ix f us i=j
   .subst e;rw[qdD,qdz,qae,qaE hi];rfl
   rw[qdI e,qdA,qae,qar e,<- qae]
  obtain⟨l',g1,g2,g3⟩:=zkO (b:=b) (us:=us) hM (m:=m) (i:=i+1) (K:=K+M) (l:=l.set (ix f us i) (gop b (l.getD (ix f us i) 0) (f.get i))) (λj=>by
   rw[hset];cases(ix f us i == j)
   .rw[qdA]; have:=hl j; omega
   rw[qdz]; exact h3) (by omega) (λk a c=>by rw[qat]; exact hx k (by omega) (by omega))
  refine⟨l',?_,by rw[g2,qat],λj hj=>?_⟩
  .unfold ziI;rw[qdB (show gop b (l.getD (ix f us i) 0) (f.get i)<=zdW by omega),qdz];exact g1
  rw[g3 j (by rw[qat]; exact hj),hset,zwQ];cases hb:(ix f us i == j)with
  | false=>rw[qdA,qdA]
  | true=>
   rw[qdz,qdz,zlW,zsr,beq_iff_eq.1 hb]
variable{us:List Nat}{M:Nat}
theorem zlm(b:Bool)(hf:FcOk f)(hs:Sel f us)(hM:∀ i,f.get i<=M)(hB:zab f.cs * M<=zdW):
  gat b f us=some ((List.range' 0 (zab (cof f us))).map λj=>big b (fib f us (zab f.cs) 0 j)):=by
 obtain⟨l',g1,g2,g3⟩:=zkO (b:=b) (us:=us) hM (m:=zab f.cs) (i:=0) (K:=0) (l:=List.replicate (zab (cof f us)) 0) (λj=>by
  rw[qae,qbT]
  split<;>exact qap _) (by omega) (λk _ hk=>by rw[qcW]; exact zAY hf hs (by omega))
 unfold gat;rw[g1];refine congrArg some (qcd (by rw[g2]; simp) λj a c=>?_);have hj:j<zab (cof f us):=by simpa using c
 have e:=g3 j (by simpa using hj);rw[qae,qac a,qae,qbT,if_pos hj]at e;simp only[qbg]at e;rw[zvV]at e;rw[e];simp
def upd(s:Nat->Nat)(v p:Nat)(u:Nat):Nat:=bif u == v then p else s u
theorem zfY(s:Nat->Nat)(v p:Nat):upd s v p v=p:=by unfold upd; rw[qdD,qdz]
variable{v p:Nat}
theorem zjI{u:Nat}(h:u≠v):upd s v p u=s u:=by unfold upd; rw[qdI h,qdA]
theorem zz1{u:Nat}(h:u∈rest f v):u≠v:=by
 have:=(qaM.1 h).2;intro e;rw[e,qdD]at this;cases this
variable{k:Nat}
theorem zgZ(hf:FcOk f)(hv:pos f.vs v=some k)(s:Nat->Nat)(p:Nat):(f.vs.map (upd s v p)).eraseIdx k=(rest f v).map s:=by
 rw[<- zfB,<- zjw hf hv];exact qbx λu hu=>zjI (zz1 hu)
theorem znJ{cs:List Nat}(hc:∀ c∈cs,1<=c/\c<=8)(h:i<zab (cs.eraseIdx k)):dot (dig (cs.eraseIdx k) i) (zaB (cs.eraseIdx k))=i:=zhX (zeW hc k) h
theorem zpp{cs ds:List Nat}(hc:∀ c∈cs,1<=c/\c<=8)(hk:k<cs.length)(hp:p<cs[k])(hb:zcP cs ds)(hd:ds.getD k 0=p):zhC cs k p (dot (ds.eraseIdx k) (zaB (cs.eraseIdx k)))=dot ds (zaB cs)/\dot (ds.eraseIdx k) (zaB (cs.eraseIdx k))<zab (cs.eraseIdx k):=by
 have hlt:=zkr hb;have hdig:=zl0 hb;obtain⟨j,h1,h2⟩:=zp6 hc hk hlt (p:=p) (by rw[hdig]; exact hd);have h3:=(zlp hc hk hp h1).2;rw[h2,hdig]at h3;rw[h3,znJ hc h1];exact⟨h2,h1⟩
theorem zpL(hv:pos f.vs v=some k)(s:Nat->Nat)(p:Nat):(f.vs.map (upd s v p)).getD k 0=p:=by
 obtain⟨hk,e⟩:=zdm hv;rw[qae,qac (by simpa using hk)];simp only[qcO,e,zfY,qbg]
theorem zlg(hf:FcOk f)(hv:pos f.vs v=some k)(hk:k<f.cs.length):at_ f.vs f.cs v=f.cs[k]:=by
 rw[zun hv,qae,qac hk];rfl
theorem zsV{f:Fc}(hf:FcOk f){v:Nat}(hv:pos f.vs v=some k)(hk:k<f.cs.length)(hp:p<f.cs[k])(hs:∀ u∈rest f v,s u<at_ f.vs f.cs u):Fit f (upd s v p):=by
 intro u hu;by_cases e:u=v
 .subst e;rw[zfY,zlg hf hv hk];exact hp
 rw[zjI e];exact hs u (qaM.2 ⟨hu,by rw[qdI e]; rfl⟩)
theorem zi8{f:Fc}(hf:FcOk f){v:Nat}(hv:pos f.vs v=some k)(hk:k<f.cs.length)(hp:p<f.cs[k])(hs:∀ u∈rest f v,s u<at_ f.vs f.cs u):(fixF f v k p).val s=f.val (upd s v p):=by
 have hb:=(zsV hf hv hk hp hs).below hf;obtain⟨h1,h2⟩:=zpp hf.zap hk hp hb (zpL hv s p);rw[zgZ hf hv]at h1 h2;show((List.range' 0 (zab (f.cs.eraseIdx k))).map λj=>f.get (zhC f.cs k p j)).getD (dot ((rest f v).map s) (zaB (f.cs.eraseIdx k))) 0=_;rw[get_map h2,h1];rfl
theorem zkJ:∀ {cs:List Nat} {k p q i:Nat},(∀ c∈cs,1<=c/\c<=8)->k<cs.length->p<q->zhC cs k p i<zhC cs k q i
 | [],k,_,_,_,_,hk,_=>by simp at hk
 | c :: cs,0,p,q,i,hc,_,h=>by
  have hp:0<zab cs:=zb1 λd hd=>hc d (qai c hd)
  have:=Nat.mul_lt_mul_of_pos_right h hp;show p * zab cs+i<q * zab cs+i;omega
 | c :: cs,k+1,p,q,i,hc,hk,h=>by
  have:=zkJ (i:=i % zab (cs.eraseIdx k)) (λd hd=>hc d (qai c hd)) (show k<cs.length by simpa using hk) h;show i / zab (cs.eraseIdx k)* zab cs+zhC cs k p (i % zab (cs.eraseIdx k))<i / zab (cs.eraseIdx k)* zab cs+zhC cs k q (i % zab (cs.eraseIdx k));omega
theorem zsg(hf:FcOk f)(hv:pos f.vs v=some k):ix f (rest f v) i=dot ((dig f.cs i).eraseIdx k) (zaB (f.cs.eraseIdx k)):=by
 unfold ix;rw[zhx hf hv,zjw hf hv,zfB,zm5 (zbc hf.inc) (by rw[zfc,hf.len])]
theorem zqA(hf:FcOk f)(hv:pos f.vs v=some k)(hk:k<f.cs.length){j:Nat}(hj:j<zab (f.cs.eraseIdx k)):fib f (rest f v) (zab f.cs) 0 j=(List.range' 0 f.cs[k]).map λp=>f.get (zhC f.cs k p j):=by
 have e:((List.range' 0 (zab f.cs)).filter λi=>ix f (rest f v) i == j)=(List.range' 0 f.cs[k]).map λp=>zhC f.cs k p j:=by
  refine zhS (qbA _ qdk) (List.pairwise_map.2 (List.Pairwise.imp (λh=>zkJ hf.zap hk h) qdk)) λx=>?_
  simp only[qaM,qc1,qaz,qdH];constructor
  .rintro⟨⟨_,h1⟩,h2⟩;have hx:x<zab f.cs:=by omega
   have hb:=zgO hf.zap hx;have hp:(dig f.cs x).getD k 0<f.cs[k]:=by
    have hkd:k<(dig f.cs x).length:=by rw[zfc]; exact hk
    have hm:f.vs[k]'(by rw[hf.len]; exact hk)∈f.vs:=qao _;have h3:=(zlQ hf.len hb hm).1;rw[zqI (zbc hf.inc) (by rw[hf.len]; exact hk),zqI (zbc hf.inc) (by rw[hf.len]; exact hk)]at h3
    rwa [qae (l:=f.cs),qac hk]at h3
   refine⟨(dig f.cs x).getD k 0,⟨qau _,by omega⟩,?_⟩;obtain⟨h3,_⟩:=zpp hf.zap hk hp hb rfl;rw[zsg hf hv]at h2;rw[h2,zhX hf.zap hx]at h3;exact h3
  rintro⟨p,⟨_,h1⟩,rfl⟩;have hp:p<f.cs[k]:=by omega
  refine⟨⟨qau _,by have:=zlv hf.zap hk hp hj; omega⟩,?_⟩;rw[zsg hf hv,(zlp hf.zap hk hp hj).2,znJ hf.zap hj]
 unfold fib;rw[e,qdf];rfl
theorem zoC(b:Bool){f:Fc}(hf:FcOk f){v:Nat}(hv:pos f.vs v=some k)(hk:k<f.cs.length){l:List Nat}(hM:∀ i,f.get i<=M)(hB:zab f.cs * M<=zdW)(hg:gat b f (rest f v)=some l)(hs:∀ u∈rest f v,s u<at_ f.vs f.cs u):
  (gF f (rest f v) l).val s=big b ((List.range' 0 f.cs[k]).map λp=>f.val (upd s v p)):=by
 have h0:=zlm b hf (zgX hf v) hM hB;rw[hg,zhx hf hv]at h0;have hl:=qaf h0;have hc0:0<f.cs[k]:=(hf.zap _ (qao hk)).1;have key:∀ p,p<f.cs[k]->zhC f.cs k p (dot ((rest f v).map s) (zaB (f.cs.eraseIdx k)))=dot (f.vs.map (upd s v p)) (zaB f.cs)/\dot ((rest f v).map s) (zaB (f.cs.eraseIdx k))<zab (f.cs.eraseIdx k):=by
  intro p hp;have h:=zpp hf.zap hk hp ((zsV hf hv hk hp hs).below hf) (zpL hv s p);rw[zgZ hf hv]at h;exact h
 have hj:=(key 0 hc0).2;show l.getD (dot ((rest f v).map s) (zaB (cof f (rest f v)))) 0=_;rw[zhx hf hv,hl,get_map hj,zqA hf hv hk hj];congr 1
 refine qbx λp hp=>?_
 have:=qc1.1 hp;rw[(key p (by omega)).1];rfl
structure Std (f:Fc) (M:Nat):Prop where
 ok:FcOk f
 cs:f.cs=f.vs.map zhY
 var:∀ v∈f.vs,v<5
 le:∀ i,f.get i<=M
def zCO(s:Nat->Nat):Prop:=∀ v,v<5->s v<zhY v
theorem zw5:∀ v,v<5->1<=zhY v/\zhY v<=8:=by decide
theorem zw6:[0,1,2,3,4].Pairwise (· < ·):=by decide
theorem zv3(h:v<5):v∈[0,1,2,3,4]:=by
 have:∀ v,v<5->v∈[0,1,2,3,4]:=by decide
 exact this v h
theorem znU{vs:List Nat}(hi:vs.Pairwise (· < ·))(hv:∀ v∈vs,v<5):zab (vs.map zhY)<=24/\vs.length<=5:=by
 have hs:=zjB hi zw6 λv h=>zv3 (hv v h)
 refine⟨?_,hs.length_le⟩;have:=ziq (hs.map zhY) (by decide);exact this
theorem ztK{vs:List Nat}(hv:∀ v∈vs,v<5):∀ c∈vs.map zhY,1<=c/\c<=8:=by
 intro c hc;obtain⟨v,h,rfl⟩:=qaz.1 hc;exact zw5 v (hv v h)
theorem zrp{vs:List Nat}(hi:vs.Pairwise (· < ·))(hv:∀ v∈vs,v<5):zcs (iL (vs.map zhY))=true:=by
 obtain⟨h1,h2⟩:=znU hi hv;unfold zcs;rw[zak,qay,qdB (by omega),qbS];exact zhl (ztK hv) (by omega)
theorem Std.at(h:Std f M)(hv:v∈f.vs):at_ f.vs f.cs v=zhY v:=by rw[h.cs,zhc hv]
theorem Std.prod(h:Std f M):zab f.cs<=24:=by rw[h.cs]; exact(znU h.ok.inc h.var).1
variable{N:Nat}
theorem Std.mono(h:Std f M)(hl:M<=N):Std f N:=⟨h.ok,h.cs,h.var,λi=>qaq (h.le i) hl⟩
theorem Std.agr(hf:Std f M)(hg:Std g N):Agr f g:=λv h1 h2=>by rw[hf.at h1,hg.at h2]
theorem Std.fit(h:Std f M)(hs:zCO s):Fit f s:=λv hv=>by rw[h.at hv]; exact hs v (h.var v hv)
theorem Std.zap(h:Std f M)(hv:pos f.vs v=some k)(hk:k<f.cs.length):f.cs[k]=zhY v:=by
 obtain⟨h1,e⟩:=zdm hv;rw[<- zlg h.ok hv hk,h.at (e ▸ qao h1)]
theorem Std.ucs(hf:Std f M)(hg:Std g N):ucs f g=(uni f g).map zhY:=by
 refine qbx λv hv=>?_
 rcases(zgD hf.ok hg.ok).1 hv with h | h
 .rw[zEr h,hf.at h]
 rw[zEk (hf.agr hg) h,hg.at h]
theorem Std.uv{f g:Fc}(hf:Std f M)(hg:Std g N):∀ v∈uni f g,v<5:=λv hv=>((zgD hf.ok hg.ok).1 hv).elim (hf.var v) (hg.var v)
theorem Std.zaK(hf:Std f M)(hg:Std g N):zcs (iL (Go.Dc.ucs f g))=true:=by
 rw[hf.ucs hg];exact zrp (zkU f g) (hf.uv hg)
theorem zeX{l:List Nat}(h:∀ x∈l,x<=M)(k:Nat):l.getD k 0<=M:=by
 by_cases hk:k<l.length
 .rw[qae,qac hk];exact h _ (qao hk)
 rw[qae,qaI (by omega)];exact qau _
theorem Std.zoi(hf:Std f M)(hg:Std g N)(hB:M * N<=zdW):Go.Dc.zoi f g=true:=
 qbN.2 λj _=>qdB (qaq (qbG (hf.le _) (hg.le _)) hB)
theorem Std.mul(hf:Std f M)(hg:Std g N)(hB:M * N<=zdW):Std (zr8 f g) (M * N):=by
 refine⟨zue hf.ok hg.ok (hf.zaK hg) (hf.zoi hg hB),hf.ucs hg,hf.uv hg,zeX λx hx=>?_⟩;obtain⟨j,_,rfl⟩:=qaz.1 hx;exact qbG (hf.le _) (hg.le _)
theorem Std.zjq{f g:Fc}{M N:Nat}(hf:Std f M)(hg:Std g N)(hB:M * N<=zdW){s:Nat->Nat}(hs:zCO s):(zr8 f g).val s=f.val s * g.val s:=
 Go.Dc.zjq hf.ok hg.ok (hf.zaK hg) ((hf.mul hg hB).fit hs)
theorem Std.bound(h:Std f M)(hB:24 * M<=zdW):zab f.cs * M<=zdW:=qaq (qav M h.prod) hB
theorem Std.gat(hf:Std f M)(hB:24 * M<=zdW)(b:Bool)(hs:Sel f us):∃ l,Go.Dc.gat b f us=some l/\Std (gF f us l) (24 * M):=by
 have h:=zlm b hf.ok hs hf.le (hf.bound hB);refine⟨_,h,zCh hf.ok hs h,?_,λv hv=>hf.var v (hs.mem v hv),zeX λx hx=>?_⟩
 .exact qbx λu hu=>hf.at (hs.mem u hu)
 obtain⟨j,_,rfl⟩:=qaz.1 hx;refine qaq (zvc (M:=M) λy hy=>?_) (qav M ?_)
 .obtain⟨i,_,rfl⟩:=qaz.1 hy;exact hf.le i
 unfold fib;rw[qay];exact qaq (List.length_filter_le _ _) (by rw[List.length_range']; exact hf.prod)
theorem Std.zoC{f:Fc}{M:Nat}(hf:Std f M)(hB:24 * M<=zdW)(b:Bool){v k:Nat}(hv:pos f.vs v=some k){l:List Nat}(hg:Go.Dc.gat b f (rest f v)=some l){s:Nat->Nat}(hs:zCO s):
  (gF f (rest f v) l).val s=big b ((List.range' 0 (zhY v)).map λp=>f.val (upd s v p)):=by
 obtain⟨hk1,_⟩:=zdm hv;have hk:k<f.cs.length:=by rw[<- hf.ok.len]; exact hk1
 have h:=Go.Dc.zoC b hf.ok hv hk hf.le (hf.bound hB) hg (s:=s) λu hu=>hf.fit hs u (qaM.1 hu).1
 rw[h,hf.zap hv hk]
theorem Std.zi8{f:Fc}{M:Nat}(hf:Std f M){v k p:Nat}(hv:pos f.vs v=some k)(hp:p<zhY v){s:Nat->Nat}(hs:zCO s):(fixF f v k p).val s=f.val (upd s v p):=by
 obtain⟨hk1,_⟩:=zdm hv;have hk:k<f.cs.length:=by rw[<- hf.ok.len]; exact hk1
 exact Go.Dc.zi8 hf.ok hv hk (by rw[hf.zap hv hk]; exact hp) λu hu=>hf.fit hs u (qaM.1 hu).1
end Go.Dc
