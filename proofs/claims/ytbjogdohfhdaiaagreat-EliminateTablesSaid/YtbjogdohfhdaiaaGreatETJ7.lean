/-
 Plain laws: a row of a table sums to the grain. Conditions: none.
-/
import Derived.Test.YtbjogdohfhdaiaaGreatETJ6
set_option linter.unusedSimpArgs false
set_option linter.unusedVariables false
namespace Go.Dc
open Go Go.Mx Go.Lx
variable{xs:List Nat}{i v:Nat}
theorem zuI(h:i<xs.length):ze5 (iL xs) (i:Int) (v:Int)=some (iL (xs.set i v)):=by
 rw[zfD (by rw[zal]; exact h)]; simp[iL]
theorem zvI(xs ys:List Nat):iL (xs ++ ys)=iL xs ++ iL ys:=by simp[iL]
theorem zup:∀ {xs:List Nat} {i k:Nat} (h:i<xs.length),(xs.set i (xs[i]+k)).sum=xs.sum+k
 | [],i,k,h=>absurd h (qat _)
 | x :: xs,0,k,h=>by simp; omega
 | x :: xs,i+1,k,h=>by
  have:=zup (xs:=xs) (i:=i) (k:=k) (by simpa using h);simp only[qcq,qc7,List.getElem_cons_succ,this];omega
theorem zkE:∀ {xs:List Nat} {i:Nat} (h:i<xs.length),xs[i]<=xs.sum
 | [],i,h=>absurd h (qat _)
 | x :: xs,0,h=>by simp
 | x :: xs,i+1,h=>by
  have:=zkE (xs:=xs) (i:=i) (by simpa using h);simp only[qc7,List.getElem_cons_succ];omega
variable{xs0 bs:List Nat}
theorem zer{x:Nat}:zaO (iL (xs0 ++ x :: bs)) ((xs0.length:Nat):Int)=some (x:Int):=by
 rw[zbf (by simp)]; simp
theorem zi0{x y:Nat}:ze5 (iL (xs0 ++ x :: bs)) ((xs0.length:Nat):Int) (y:Int)=some (iL (xs0 ++ y :: bs)):=by
 rw[zuI (by simp)]; simp
variable{a b:Nat}
theorem zjg(hb:0<b):zqt (a:Int) (b:Int)=some ((a % b:Nat):Int):=by
 unfold zqt;have:((b:Int)== 0)=false:=by simp; omega
 rw[this,qdx]; rfl
theorem zwJ(a b:Nat):(a:Int).tmod (b:Int)=((a % b:Nat):Int):=rfl
theorem zE0{ws:List Nat}{g p c:Nat}(hp:p<=65536)(hc:c<=8):∀(n:Nat) (xs0:List Nat) (k:Nat),xs0.length+k=c->xs0.sum<=7 * xs0.length->k<n ->
  ∃ zs:List Nat,zs.length=c/\zs.sum<=7 * c/\zds (c:Int) (iL ws) (p:Int) n ((xs0.sum:Nat):Int) (xs0.length:Int) (iL (xs0 ++ List.replicate k 0))=some (((zs.sum:Nat):Int),iL zs)
 | 0,_,_,_,_,h=>absurd h (qat _)
 | n+1,xs0,0,h1,h2,h3=>by
  refine⟨xs0,by simpa using h1,by rw[<- h1]; simpa using h2,?_⟩;unfold zds;rw[zaH,qdy (by omega),qdx];simp
 | n+1,xs0,k+1,h1,h2,h3=>by
  have step:∀ a:Nat,a<=7->∃ zs:List Nat,zs.length=c/\zs.sum<=7 * c/\zds (c:Int) (iL ws) (p:Int) n (w64 (((xs0.sum:Nat):Int)+(a:Int))) (w64 ((xs0.length:Int)+1)) (iL (xs0 ++ a :: List.replicate k 0))=some (((zs.sum:Nat):Int),iL zs):=by
   intro a ha;obtain⟨zs,e1,e2,e3⟩:=zE0 (ws:=ws) (g:=g) hp hc n (xs0 ++ [a]) k (by simp; omega) (by simp; omega) (by omega);refine⟨zs,e1,e2,?_⟩;rw[zak (by omega),<- qbM,zas (by omega),<- e3];simp
  unfold zds;rw[zaH,qdz (by omega),qdw,zal,qa1];by_cases h0:0<ws.length
  .have hq:(p+xs0.length) % ws.length<ws.length:=qbp _ h0;obtain⟨zs,e1,e2,e3⟩:=step (ws[(p+xs0.length) % ws.length] % 8) (by omega);refine⟨zs,e1,e2,?_⟩
   rw[show decide ((0:Int)<(ws.length:Int))=true by simpa using h0,qdw,<- qbM,zas (by omega),zjg h0,qaa,zbf hq,qaa,zer,
    qaa,show(((ws[(p+xs0.length) % ws.length]:Nat):Int).tmod 8)=((ws[(p+xs0.length) % ws.length] % 8:Nat):Int)from rfl,zas (by omega),zi0,
    qaa,qaa,zer,qaa,e3]
  obtain⟨zs,e1,e2,e3⟩:=step 0 (by omega);refine⟨zs,e1,e2,?_⟩;rw[show decide ((0:Int)<(ws.length:Int))=false by simpa using h0,qdx,qaa,zer,qaa,e3]
theorem zEb{g t c:Nat}(hg:g<=60)(hc:c<=8)(ht:t<=65536):∀(n:Nat) (xs0 bs:List Nat) (m:Nat) (v:Nat),xs0.length+bs.length=c->xs0.sum * t+g * bs.sum<=g * t->bs.sum<=t->xs0.sum<=g->v<c->bs.length<n ->
  ∃(zs:List Nat) (v':Nat),zs.length=c/\zs.sum<=g/\v'<c/\zdN (c:Int) (g:Int) (t:Int) n ((g - xs0.sum:Nat):Int) (v:Int) (xs0.length:Int) (iL (xs0 ++ bs))=some (((g - zs.sum:Nat):Int),(v':Int),iL zs)
 | 0,_,_,_,_,_,_,_,_,_,h=>absurd h (qat _)
 | n+1,xs0,[],m,v,h1,h2,h2b,h3,h4,h5=>by
  refine⟨xs0,v,by simpa using h1,h3,h4,?_⟩;unfold zdN;rw[zaH,qdy (by simp at h1; omega),qdx];simp
 | n+1,xs0,b :: bs,m,v,h1,h2,h2b,h3,h4,h5=>by
  simp only[qay,qc7]at h1 h2 h2b h5;unfold zdN;rw[zaH,qdz (by omega),qdw,zer,qaa];by_cases h0:0<b
  .have hb:b<=t:=by omega
   have hgb:g * b<=60 * 65536:=qbc hg (by omega);have hd:g * b / t * t<=g * b:=Nat.div_mul_le_self _ _;have hs:xs0.sum+g * b / t<=g:=by
    have h6:(xs0.sum+g * b / t)* t<=g * t:=by
     rw[qaM];have:g * (b+bs.sum)=g * b+g * bs.sum:=qdd _ _ _;omega
    exact qcl h6 (by omega)
   obtain⟨zs,v',e1,e2,e3,e4⟩:=zEb hg hc ht n (xs0 ++ [g * b / t]) bs m xs0.length (by simp; omega) (by
    have:g * (b+bs.sum)=g * b+g * bs.sum:=qdd _ _ _
    simp only[List.sum_append,qc7,List.sum_nil,qbz,qaM]; omega) (by omega) (by simpa using hs) (by omega) (by omega)
   refine⟨zs,v',e1,e2,e3,?_⟩;have hq:zrD .i64 (w64 ((g:Int)* (b:Int))) (t:Int)=some ((g * b / t:Nat):Int):=by
    unfold zrD;have:((t:Int)== 0)=false:=by simp; omega
    rw[this,qdx,<- qaU,zas (by omega)];have hle:g * b / t<=g * b:=qdq _ _;exact congrArg some (zas (n:=g * b / t) (by omega))
   rw[show decide ((0:Int)<(b:Int))=true by simpa using h0,qdw,hq,qaa,zi0,qaa,qaa];simp only[];rw[zer,qaa,zak (by omega),show(((g - xs0.sum:Nat):Int) - ((g * b / t:Nat):Int))=((g - (xs0.sum+g * b / t):Nat):Int) by omega,zas (qcK (Nat.sub_le _ _) (by omega)),<- e4];simp
  have hb:b=0:=by omega
  subst hb;obtain⟨zs,v',e1,e2,e3,e4⟩:=zEb hg hc ht n (xs0 ++ [0]) bs m v (by simp; omega) (by simp at h2 ⊢; omega) (by omega) (by simpa using h3) h4 (by omega);refine⟨zs,v',e1,e2,e3,?_⟩;rw[show decide ((0:Int)<((0:Nat):Int))=false from rfl,qdx,qaa];simp only[];rw[zer,qaa,zak (by omega),<- Int.ofNat_sub (by omega),zas (by omega),<- e4];simp
variable{g p c:Nat}
theorem zAF{ws:List Nat}(hg:g<=60)(hp:p<=65536)(h1:1<=c)(hc:c<=8):
  ∃ zs:List Nat,zs.length=c/\zs.sum=g/\zf6 (g:Int) (c:Int) (iL ws) (p:Int)=some (iL zs):=by
 obtain⟨zs,e1,e2,e3⟩:=zE0 (ws:=ws) (g:=g) hp hc (c+2) [] c (by simp) (by simp) (by omega);obtain⟨ys,v,f1,f2,f3,f4⟩:=zEb (g:=g) (t:=zs.sum) (c:=c) hg hc (by omega) (c+2) [] zs 0 0 (by simp[e1]) (by simp) (qao _) (by simp) (by omega) (by omega);have hv:v<ys.length:=by omega
 refine⟨ys.set v (ys[v]+(g - ys.sum)),by simp[f1],by rw[zup]; omega,?_⟩;unfold zf6;have hz:List.replicate c (0:Int)=iL (List.replicate c 0):=by simp[iL]
 simp only[qa4,List.sum_nil,qa3,qco]at e3 f4;rw[zde (by omega),qaa,hz,zaI];rw[show((0:Nat):Int)=0 from rfl]at e3 f4;rw[e3,qaa];simp only[];rw[f4,qaa];simp only[];rw[zbf hv,qaa,<- qbM,zas,zuI hv,qaa];have:ys[v]<=ys.sum:=zkE hv;omega
theorem zs3{c w:Nat}{os:List Int}{wh:Int}(hc:c<=5):∀(n i:Nat) (acc:List Int),acc.length=i->i<=c->c - i<n ->
  ∃ zs:List Int,zs.length=c/\zbx ⟨List.replicate c 0,wh,os⟩ n (i:Int) acc=some zs
 | 0,_,_,_,_,h=>absurd h (qat _)
 | n+1,i,acc,h1,h2,h3=>by
  unfold zbx;simp only[qb7];by_cases hi:i<c
  .obtain⟨zs,e1,e2⟩:=zs3 (w:=w) (os:=os) (wh:=wh) hc n (i+1) (acc ++ [1]) (by simp[h1]) hi (by omega);refine⟨zs,e1,?_⟩
   rw[zaH,qdz hi,qdw,qaa,show decide ((i:Int)<5)=true by simp; omega,qdw,zbd (by simpa using hi),qaa,
    List.getElem_replicate,show w64 (1+w64 ((0:Int).tmod 4))=1 from rfl,zcv (by simp; omega),qaa,zak (by omega),e2]
  exact⟨acc,by omega,by rw[zaH,qdy hi,qdx,qaa,qdx]⟩
variable{N:Nat}
theorem zwU{os:List Int}{wh:Int}(hc:c<=5)(hN:6<=N):∃ zs:List Int,zs.length=c/\zcb N ⟨List.replicate c 0,wh,os⟩=some zs:=by
 obtain⟨zs,e1,e2⟩:=zs3 (w:=0) (os:=os) (wh:=wh) hc N 0 [] rfl (qaz _) (by omega);refine⟨zs,e1,?_⟩;unfold zcb;rw[show((0:Nat):Int)=0 from rfl]at e2;rw[e2,qaa]
structure PermOk (c:Nat) (xs:List Nat):Prop where
 len:xs.length=c
 nod:xs.Nodup
 lt:∀ x∈xs,x<c
 all:∀ x,x<c->x∈xs
variable{α:Type}
theorem zhV{xs:List α}(h1:a<=b)(h2:b<=xs.length):zd1 xs (a:Int) (b:Int)=some ((xs.drop a).take (b - a)):=by
 unfold zd1;rw[if_pos (by omega)];simp
theorem zyg{c N:Nat}{os:List Nat}{wh:Int}(hc:c<=5)(hN:6<=N)(ho:∀ o∈os,o<=255):∀(n i:Nat) (xs:List Nat),PermOk i xs->i<=c->c - i<n ->
  ∃ zs:List Nat,PermOk c zs/\zaG N ⟨List.replicate c 0,wh,iL os⟩ n (i:Int) (iL xs)=some (iL zs)
 | 0,_,_,_,_,h=>absurd h (qat _)
 | n+1,i,xs,h1,h2,h3=>by
  unfold zaG;obtain⟨z0,z1,z2⟩:=zwU (os:=iL os) (wh:=wh) hc hN;rw[z2,qaa,z1];by_cases hi:i<c
  .have step:∀ q:Nat,q<=i->∃ zs:List Nat,PermOk c zs/\((zd1 (iL xs) 0 (q:Int)).bind λy9=>
     (zd5 8 y9).bind λy11=>(zdi 8 y9 [(i:Int)]).bind λy13=>(zd1 (iL xs) (q:Int) (iL xs).length).bind λy15=>(zdi 8 y13 y15).bind λy17=>
     zaG N ⟨List.replicate c 0,wh,iL os⟩ n (w64 ((i:Int)+1)) y17)=some (iL zs):=by
    intro q hq;have hl:=h1.len;have hp:List.Perm (xs.take q ++ i :: xs.drop q) (i :: xs):=by
     refine List.perm_middle.trans ?_;rw[qbV]
    obtain⟨zs,e1,e2⟩:=zyg (wh:=wh) hc hN ho n (i+1) (xs.take q ++ i :: xs.drop q) ⟨by rw[hp.length_eq]; simp[hl],hp.nodup_iff.2 (qa7.2 ⟨λhx=>qb3 _ (h1.lt _ hx),h1.nod⟩),
     λx hx=>by
      rcases qax.1 (hp.mem_iff.1 hx)with h | h
      .omega
      have:=h1.lt _ h; omega,
     λx hx=>hp.mem_iff.2 (by
      by_cases hxi:x=i
      .exact qax.2 (.inl hxi)
      exact qag _ (h1.all _ (by omega)))⟩ hi (by omega)
    refine⟨zs,e1,?_⟩
    rw[show(0:Int)=((0:Nat):Int)from rfl,zhV (qaz _) (by rw[zal]; omega),qaa,zgv (by simp[zal]; omega),qaa,
     zcv (by simp[zal]; omega),qaa,zhV (by rw[zal]; omega) (qao _),qaa,zcv (by simp[zal]; omega),qaa,zak (by omega),<- e2]
    congr 1
    simp[iL,qaS]
   rw[zaH,qdz hi,qdw];simp only[zal (os)];by_cases hio:i<os.length
   .have hq:os[i] % (i+1)<=i:=Nat.lt_succ_iff.1 (qbp _ (Nat.succ_pos _));have hb:=ho _ (qau hio);obtain⟨zs,e1,e2⟩:=step _ hq;refine⟨zs,e1,?_⟩;rw[zaH,qdz hio,qdw,zbf hio,qaa,zas (by omega),zak (by omega),zjg (by omega),qaa,qaa,<- zak (by omega)];exact e2
   obtain⟨zs,e1,e2⟩:=step 0 (qaz _);refine⟨zs,e1,?_⟩;rw[zaH,qdy hio,qdx,qaa];exact e2
  have:i=c:=by omega
  subst this;exact⟨xs,h1,by rw[zaH,qdy hi,qdx]⟩
theorem zzA{os:List Nat}{wh:Int}(hc:c<=5)(hN:6<=N)(ho:∀ o∈os,o<=255):
  ∃ zs:List Nat,PermOk c zs/\zbj N ⟨List.replicate c 0,wh,iL os⟩=some (iL zs):=by
 obtain⟨zs,e1,e2⟩:=zyg (wh:=wh) hc hN ho N 0 [] ⟨rfl,List.nodup_nil,by simp,by simp⟩ (qaz _) (by omega);refine⟨zs,e1,?_⟩;unfold zbj;rw[show((0:Nat):Int)=0 from rfl,show iL []=[]from rfl]at e2;rw[e2,qaa]
structure NN where
 c:Nat
 ps:List Nat
 rows:List (List Nat)
def nd(x:NN):S_api_Node:=⟨x.c,iL x.ps,x.rows.map iL⟩
theorem zqd(k:IntKind)(a:Int):∃ q,zki k a (v:Int)=some q:=by
 unfold zki;rw[if_pos (qbL v)];exact⟨_,rfl⟩
variable{num:List Nat}{k:Nat}
theorem zxp{ps:List Nat}{ps8:Int}{u:Nat}(hk:k<num.length):∃ b,zwF (iL num) ps8 (u:Int) (k:Int) (iL ps)=some b/\(b=true->num[k]=u/\ps.length<3):=by
 unfold zwF;rw[zbf hk,qaa];by_cases h:num[k]=u
 .obtain⟨q,e⟩:=zqd .u8 ps8 (v:=k % 18446744073709551616);rw[show(((num[k]:Nat):Int)==(u:Int))=true by simp[h],qdw,zw6,e,qaa];cases zkX .u8 q 1 == 1 with
  | true=>exact⟨_,rfl,λh2=>⟨h,by rw[zal]at h2; have:=of_decide_eq_true h2; omega⟩⟩
  | false=>exact⟨_,rfl,λh2=>by cases h2⟩
 rw[show(((num[k]:Nat):Int)==(u:Int))=false by simp; omega,qdx];exact⟨_,rfl,λh2=>by cases h2⟩
theorem zlp{num:List Nat}{ps8:Int}{u i:Nat}(hi:i<=num.length)(hn:num.length<=5)(hd:num.Nodup):∀(n k:Nat) (ps:List Nat),ps.length<=3->k<=i->i - k<n ->
  ∃ qs:List Nat,zpA (iL num) (i:Int) ps8 (u:Int) n (k:Int) (iL ps)=some (iL qs)/\(qs=ps\/(qs=ps ++ [u]/\ps.length<3/\∃ j,k<=j/\j<i/\num[j]? = some u))
 | 0,_,_,_,_,h=>absurd h (qat _)
 | n+1,k,ps,h1,h2,h3=>by
  unfold zpA;by_cases hk:k<i
  .obtain⟨b,e,hb⟩:=zxp (num:=num) (ps:=ps) (ps8:=ps8) (u:=u) (k:=k) (by omega);rw[zaH,qdz hk,qdw,e,qaa];cases b with
   | false=>
    obtain⟨qs,e2,h4⟩:=zlp (ps8:=ps8) (u:=u) hi hn hd n (k+1) ps h1 hk (by omega);refine⟨qs,by rw[qdx,zak (by omega),e2],?_⟩;rcases h4 with h4 | ⟨h4,h5,j,h6,h7,h8⟩
    .exact .inl h4
    .exact .inr ⟨h4,h5,j,by omega,h7,h8⟩
   | true=>
    obtain⟨h5,h6⟩:=hb rfl;obtain⟨qs,e2,h4⟩:=zlp (ps8:=ps8) (u:=u) hi hn hd n (k+1) (ps ++ [u]) (by simp; omega) hk (by omega);refine⟨qs,?_,.inr ⟨?_,h6,k,qao _,hk,by rw[qac (by omega),h5]⟩⟩
    .rw[qdw,zcv (by simp[zal]; omega),qaa,zak (by omega),<- e2];simp[iL]
    rcases h4 with h4 | ⟨h4,h7,j,h8,h9,h10⟩
    .exact h4
    exfalso
    have hj:j<num.length:=by omega
    rw[qac hj]at h10;have h12:num[j]=num[k]'(by omega):=by rw[h5]; exact qaj h10
    exact qbo.1 hd k j (by omega) hj (by omega) h12.symm
  exact⟨ps,by rw[zaH,qdy hk,qdx],.inl rfl⟩
structure ParOk (num:List Nat) (i:Nat) (b:Nat) (ps:List Nat):Prop where
 len:ps.length<=3
 inc:ps.Pairwise (· < ·)
 lt:∀ p∈ps,p<b
 mem:∀ p∈ps,∃ j,j<i/\num[j]? = some p
theorem zqF{num:List Nat}{ps8:Int}{i c:Nat}(hi:i<=num.length)(hn:num.length<=5)(hc:c<=5)(hd:num.Nodup):∀(n u:Nat) (ps:List Nat),ParOk num i u ps->u<=c->c - u<n ->
  ∃ qs:List Nat,zrM (iL num) (i:Int) ps8 (c:Int) n (u:Int) (iL ps)=some (iL qs)/\ParOk num i c qs
 | 0,_,_,_,_,h=>absurd h (qat _)
 | n+1,u,ps,h1,h2,h3=>by
  unfold zrM;by_cases hu:u<c
  .obtain⟨qs,e,h4⟩:=zlp (ps8:=ps8) (u:=u) hi hn hd (i+2) 0 ps h1.len (qaz _) (by omega);rw[show((0:Nat):Int)=0 from rfl]at e;have hq:ParOk num i (u+1) qs:=by
    rcases h4 with h4 | ⟨h4,h5,j,h6,h7,h8⟩
    .subst h4;exact⟨h1.len,h1.inc,λp hp=>qcy (h1.lt p hp),h1.mem⟩
    subst h4;refine⟨by simp; omega,?_,?_,?_⟩
    .rw[qcS];exact⟨h1.inc,List.pairwise_singleton _ _,λa ha b hb=>by rw[qaP.1 hb]; exact h1.lt a ha⟩
    .intro p hp;rcases qbr.1 hp with hp | hp
     .exact qcy (h1.lt p hp)
     rw[qaP.1 hp]; exact qbC _
    intro p hp;rcases qbr.1 hp with hp | hp
    .exact h1.mem p hp
    rw[qaP.1 hp]; exact⟨j,h7,h8⟩
   obtain⟨rs,e2,h9⟩:=zqF (ps8:=ps8) hi hn hc hd n (u+1) qs hq hu (by omega);refine⟨rs,?_,h9⟩;rw[zaH,qdz hu,qdw,qaL,e,qaa,zak (by omega),e2]
  have:u=c:=by omega
  subst this;exact⟨ps,by rw[zaH,qdy hu,qdx],h1⟩
variable{ns:List NN}
theorem zcO(h:v<ns.length):zaO (ns.map nd) (v:Int)=some (nd ns[v]):=by
 rw[zbd (by simpa using h)]; simp
theorem zhc{x:NN}(h:v<ns.length):ze5 (ns.map nd) (v:Int) (nd x)=some ((ns.set v x).map nd):=by
 rw[zfD (by simpa using h)]; simp
theorem zAT{ps8:Int}(hi:i<=num.length)(hn:num.length<=5)(hl:ns.length<=5)(hd:num.Nodup)(hv:v<ns.length)(hp:ns[v].ps=[]):
  ∃ qs:List Nat,zo3 (iL num) (i:Int) (v:Int) (ns.length:Int) ps8 (ns.map nd)=some ((ns.set v ⟨ns[v].c,qs,ns[v].rows⟩).map nd)/\ParOk num i ns.length qs:=by
 obtain⟨qs,e,h⟩:=zqF (ps8:=ps8) hi hn hl hd (ns.length+2) 0 [] ⟨by simp,by simp,by simp,by simp⟩ (qaz _) (by omega);refine⟨qs,?_,h⟩;unfold zo3;rw[show((0:Nat):Int)=0 from rfl,show iL []=[]from rfl]at e;rw[zcO hv,qaa,show(nd ns[v]).parents.isEmpty=true by simp[nd,hp,iL],qdw,qaL,e,qaa];exact zhc (x:=⟨ns[v].c,qs,ns[v].rows⟩) hv
structure RowsOk (g c m:Nat) (rows:List (List Nat)):Prop where
 len:rows.length=m
 row:∀ r∈rows,r.length=c/\r.sum=g
theorem zi9{x:NN}(hv:v<ns.length)(hx:x.c=ns[v].c):(ns.set v x).map (·.c)=ns.map (·.c):=by
 rw[List.map_set,hx];apply qcm (by simp);intro i h1 h2;rw[List.getElem_set];split
 .subst_vars; simp
 rfl
def zek(ns:List NN)(ps:List Nat):List Nat:=ps.map λp=>(ns.map (·.c)).getD p 0
theorem zAs:(iL xs).getD p 0=((xs.getD p 0:Nat):Int):=by
 simp only[iL,qai,qa5];cases xs[p]?<;>rfl
theorem zEE{g:Int}(hl:ns.length<=8)(hv:v<ns.length)(hp:Pl ns.length ns[v].ps)(h8:ns[v].ps.length<=8):
  zbG ⟨g,ns.map nd⟩ (v:Int)=some (iL (zek ns ns[v].ps)):=by
 unfold zbG;rw[zcO hv,qaa,zxz (by simpa using hl),qaa];have hc:(ns.map nd).map (·.zaC)=iL (ns.map (·.c)):=by simp[iL,nd,Function.comp_def]
 simp only[];rw[hc,show(nd ns[v]).parents=iL ns[v].ps from rfl,zEs (by rw[zal,qar]; exact hp) h8,qaa];congr 1
 simp only[zAs];simp only[zek,iL,qde,Function.comp_def]
theorem zqj{g:Nat}{W:List Nat}{ns:List NN}{v m:Nat}(hg:g<=60)(hl:ns.length<=8)(hv:v<ns.length)(hp:Pl ns.length ns[v].ps)(h8:ns[v].ps.length<=8)(hc1:1<=ns[v].c)(hc4:ns[v].c<=4)
  (hs:∀ x∈zek ns ns[v].ps,1<=x) (hm:zab (zek ns ns[v].ps)=m) (hm2:m<=1024):∀(n r:Nat) (rows:List (List Nat)),RowsOk g ns[v].c r rows->r<=m->m - r<n ->
  ∃ rows',RowsOk g ns[v].c m rows'/\zsC (g:Int) (v:Int) (iL W) (ns.map nd) (nd ns[v]) n (r:Int) (rows.map iL)=some (rows'.map iL)
 | 0,_,_,_,_,h=>absurd h (qat _)
 | n+1,r,rows,h1,h2,h3=>by
  unfold zsC;have hx:(⟨(nd ns[v]).zaC,(nd ns[v]).parents,rows.map iL⟩:S_api_Node)=nd ⟨ns[v].c,ns[v].ps,rows⟩:=rfl;have hpc:zbG ⟨g,(ns.set v ⟨ns[v].c,ns[v].ps,rows⟩).map nd⟩ (v:Int)=some (iL (zek ns ns[v].ps)):=by
   rw[zEE (by simpa using hl) (by simpa using hv) (by simpa using hp) (by simpa using h8)];unfold zek;rw[zi9 (x:=⟨ns[v].c,ns[v].ps,rows⟩) hv rfl];simp
  rw[hx,zhc hv,qaa,hpc,qaa,zz3 hs (by simpa [zek]using h8) (by omega),qaa,hm];by_cases hr:r<m
  .have hmul:r * (ns[v].c+1)<=1024 * 5:=qbc (by omega) (by omega);obtain⟨zs,e1,e2,e3⟩:=zAF (ws:=W) (g:=g) (p:=r * (ns[v].c+1)) (c:=ns[v].c) hg (by omega) hc1 (by omega)
   obtain⟨rows',e4,e5⟩:=zqj hg hl hv hp h8 hc1 hc4 hs hm hm2 (W:=W) n (r+1) (rows ++ [zs]) ⟨by simp[h1.len],by
    intro y hy;rcases qbr.1 hy with hy | hy
    .exact h1.row y hy
    rw[qaP.1 hy]; exact⟨e1,e2⟩⟩ hr (by omega)
   refine⟨rows',e4,?_⟩;have hcard:(nd ns[v]).zaC=((ns[v].c:Nat):Int):=rfl;have hlen:=h1.len;rw[zaH,qdz hr,qdw,hcard,zak (by omega),<- qaU,zas (by omega),e3,qaa,zcv (by simp; omega),qaa,zak (by omega),<- e5];simp
  have:r=m:=by omega
  subst this;exact⟨rows,h1,by rw[zaH,qdy hr,qdx]⟩
theorem zzz{W:List Nat}{ns:List NN}{v:Nat}(hg:g<=60)(hl:ns.length<=8)(hv:v<ns.length)(hp:Pl ns.length ns[v].ps)(h8:ns[v].ps.length<=8)(hc1:1<=ns[v].c)(hc4:ns[v].c<=4)(hs:∀ x∈zek ns ns[v].ps,1<=x)(hm2:zab (zek ns ns[v].ps)<=1024)(hr:ns[v].rows=[])(hN:1025<=N):
  ∃ rows,RowsOk g ns[v].c (zab (zek ns ns[v].ps)) rows/\zpF N (g:Int) (v:Int) (iL W) (ns.map nd)=some ((ns.set v ⟨ns[v].c,ns[v].ps,rows⟩).map nd):=by
 obtain⟨rows,e1,e2⟩:=zqj hg hl hv hp h8 hc1 hc4 hs rfl hm2 (W:=W) N 0 [] ⟨rfl,by simp⟩ (qaz _) (by omega);refine⟨rows,e1,?_⟩;unfold zpF;rw[show((0:Nat):Int)=0 from rfl,show([]:List (List Nat)).map iL=[]from rfl]at e2;rw[zcO hv,qaa,show(nd ns[v]).rows.isEmpty=true by simp[nd,hr],qdw,e2,qaa];exact zhc (x:=⟨ns[v].c,ns[v].ps,rows⟩) hv
structure NodeOk (num:List Nat) (g:Nat) (cs:List Nat) (j:Nat) (x:NN):Prop where
 par:ParOk num j cs.length x.ps
 rows:RowsOk g x.c (zab (x.ps.map λp=>cs.getD p 0)) x.rows
structure NetOk (num:List Nat) (g:Nat) (ns:List NN):Prop where
 g1:1<=g
 g2:g<=60
 n1:1<=ns.length
 n2:ns.length<=8
 zaC:∀ x∈ns,1<=x.c/\x.c<=4
 prod:zab (ns.map (·.c))<=1024
 perm:PermOk ns.length num
 node:∀(j v:Nat) (x:NN),num[j]? = some v->ns[v]? = some x->NodeOk num g (ns.map (·.c)) j x
structure PieceN where
 zaC:Nat
 parents:Nat
 w:List Nat
structure DraftN where
 grain:Nat
 nodes:List PieceN
 order:List Nat
def zp4(x:PieceN):S_haruspexref05_Piece:=⟨x.zaC,x.parents,iL x.w⟩
def zdm(d:DraftN):S_haruspexref05_Draft:=⟨d.grain,d.nodes.map zp4,iL d.order⟩
structure DraftOk (d:DraftN):Prop where
 grain:d.grain<=255
 zaC:∀ x∈d.nodes,x.zaC<=255
 order:∀ x∈d.order,x<=255
def zmX(d:DraftN):Nat:=min (max d.nodes.length 1) 5
theorem zpE(d:DraftN):zfT (ze6 ((zdm d).nodes.length:Int) 1) 5=((zmX d:Nat):Int):=by
 simp only[zfT,ze6,zmX,zdm,qar];split<;>split<;>omega
def znz(xs:List Nat):Nat:=xs.foldr (λx a=>max 1 x * a) 1
theorem znP:∀ {xs:List Nat} {i c:Nat},xs[i]? = some 0->1<=c->znz (xs.set i c)=znz xs * c
 | [],i,c,h,hc=>by simp at h
 | x :: xs,0,c,h,hc=>by
  have:x=0:=by simpa using h
  subst this;simp only[qb9,znz,qds];rw[Nat.max_eq_right hc,Nat.max_eq_left (qaz _),qbh,qaV]
 | x :: xs,i+1,c,h,hc=>by
  have ih:=znP (xs:=xs) (i:=i) (c:=c) (by simpa using h) hc;simp only[qcq,znz,qds]at ih ⊢;rw[ih,qa6]
theorem zry:∀ {xs:List Nat},(∀ x∈xs,1<=x)->znz xs=zab xs
 | [],_=>rfl
 | x :: xs,h=>by
  have ih:=zry (xs:=xs) λy hy=>h y (qag _ hy)
  have hx:=h x qam;simp only[znz,zab,qds]at ih ⊢;rw[ih,Nat.max_eq_right hx]
theorem zGf(h:a * 2 ^ v<9223372036854775808)(hv:v<64):zsN .i64 (a:Int) (v:Int)=some ((a * 2 ^ v:Nat):Int):=by
 unfold zsN;rw[if_pos (qbL v)];congr 1
 have h1:min (v:Int).toNat IntKind.i64.bits=v:=by
  rw[show IntKind.i64.bits=64 from rfl,qaL]; exact qb6 (by omega)
 rw[h1];have h2:(a:Int)* ((2:Int) ^ v)=((a * 2 ^ v:Nat):Int):=by simp
 rw[h2];exact zas h
structure L1Ok (num:List Nat) (c j a:Nat) (ns:List NN):Prop where
 len:ns.length=c
 bare:∀ x∈ns,x.ps=[]/\x.rows=[]
 prod:znz (ns.map (·.c))=a
 low:a * 2 ^ (c - j)<=100
 done:∀(k v:Nat),k<j->num[k]? = some v->∃ x,ns[v]? = some x/\2<=x.c/\x.c<=3
 left:∀(k v:Nat),j<=k->num[k]? = some v->∃ x,ns[v]? = some x/\x.c=0
theorem zof{d:DraftN}(hd:DraftOk d){j:Nat}:∃(zaC parents:Nat) (w:List Nat),zaC<=255 /\
  ((bif (decide ((j:Int)<((zdm d).nodes.length:Int)))then(
(zaO (zdm d).nodes (j:Int)).bind λx9=>
some (x9.zaC,x9.parents,x9.w))
else(
some (0,0,[])):Option ((Int×Int×(List Int)))))=some ((zaC:Int),(parents:Int),iL w):=by
 have hl:(zdm d).nodes.length=d.nodes.length:=by simp[zdm]
 by_cases hj:j<d.nodes.length
 .refine⟨d.nodes[j].zaC,d.nodes[j].parents,d.nodes[j].w,hd.zaC _ (qau hj),?_⟩;rw[hl,zaH,qdz hj,qdw,zbd (by rw[hl]; exact hj),qaa];simp[zdm,zp4]
 refine⟨0,0,[],by omega,?_⟩;rw[hl,zaH,qdy hj,qdx];rfl
theorem zyB{d:DraftN}(hd:DraftOk d){num:List Nat}{c:Nat}(hc:zmX d=c)(hp:PermOk c num):∀(n j a:Nat) (ns:List NN),L1Ok num c j a ns->j<=c->c - j<n ->
  ∃(ns':List NN) (a':Nat),L1Ok num c c a' ns'/\zbA (zdm d) (iL num) n (a:Int) (j:Int) (ns.map nd)=some (ns'.map nd)
 | 0,_,_,_,_,_,h=>absurd h (qat _)
 | n+1,j,a,ns,h1,h2,h3=>by
  have hc5:c<=5:=by rw[<- hc]; exact qcE _ _
  unfold zbA;rw[zpE,hc];by_cases hj:j<c
  .rw[zaH,qdz hj,qdw];obtain⟨zaC,parents,w,hcard,e⟩:=zof hd (j:=j);rw[e,qaa];simp only[];have hjn:j<num.length:=by rw[hp.len]; exact hj
   have hv:num[j]<ns.length:=by rw[h1.len]; exact hp.lt _ (qau hjn)
   obtain⟨x0,hx0,hx00⟩:=h1.left j num[j] (qao _) (qac hjn);have hx1:ns[num[j]]=x0:=by rw[qac hv]at hx0; exact qaj hx0
   have hbare:=h1.bare _ (qau hv);have hpow:1<=2 ^ (c - 1 - j):=Nat.one_le_two_pow;have hsplit:2 ^ (c - j)=2 * 2 ^ (c - 1 - j):=by rw[show c - j=(c - 1 - j)+1 by omega,qdu,qaV]
   have hlow:=h1.low;have hle:a * 2 ^ (c - 1 - j)<=100:=qan (qch a (by omega)) hlow;have ha:a<=100:=qan (qaO a hpow) hle;have step:∀ b:Nat,2<=b->b<=3->a * b * 2 ^ (c - 1 - j)<=100->∃(ns':List NN) (a':Nat),L1Ok num c c a' ns' /\
     ((zaO (iL num) (j:Int)).bind λx14=>(zaO (ns.map nd) x14).bind λx16=>(ze5 (ns.map nd) x14 (S_api_Node.mk (b:Int) x16.parents x16.rows)).bind λy18=>
      zbA (zdm d) (iL num) n (w64 ((a:Int)* (b:Int))) (w64 ((j:Int)+1)) y18)=some (ns'.map nd):=by
    intro b hb1 hb2 hb3;have hab:a * b<=100:=qan (qaO _ hpow) hb3
    obtain⟨ns',a',f1,f2⟩:=zyB hd hc hp n (j+1) (a * b) (ns.set num[j] ⟨b,ns[num[j]].ps,ns[num[j]].rows⟩) {
     len:=by simpa using h1.len
     bare:=λy hy=>by
      rcases qct hy with hy | hy
      .exact h1.bare y hy
      subst hy; exact hbare
     prod:=by
      rw[List.map_set,znP (c:=b) (by rw[qa5,qac hv,hx1]; simp[hx00]) (by omega),h1.prod]
     low:=by rw[show c - (j+1)=c - 1 - j by omega]; exact hb3
     done:=λk v hk hkv=>by
      by_cases hkj:k=j
      .subst hkj;rw[qac hjn]at hkv;have:=qaj hkv;subst this;exact⟨_,qaG hv,hb1,hb2⟩
      obtain⟨x,g1,g2⟩:=h1.done k v (by omega) hkv;refine⟨x,?_,g2⟩;rw[qap,g1];intro hh;have hk':=(qab.1 hkv);have hkl:k<num.length:=hk'.1;exact qbo.1 hp.nod k j hkl hjn (by omega) (by rw[hk'.2]; exact hh.symm)
     left:=λk v hk hkv=>by
      obtain⟨x,g1,g2⟩:=h1.left k v (by omega) hkv;refine⟨x,?_,g2⟩;rw[qap,g1];intro hh;have hk':=(qab.1 hkv);have hkl:k<num.length:=hk'.1
      exact qbo.1 hp.nod j k hjn hkl (by omega) (by rw[hk'.2]; exact hh) } hj (by omega)
    refine⟨ns',a',f1,?_⟩
    rw[zbf hjn,qaa,zcO hv,qaa,show S_api_Node.mk (b:Int) (nd ns[num[j]]).parents (nd ns[num[j]]).rows=nd ⟨b,ns[num[j]].ps,ns[num[j]].rows⟩from rfl,
     zhc hv,qaa,<- qaU,zas (by omega),zak (by omega),f2]
   have hw1:w64 (2+w64 ((zaC:Int).tmod 2))=((2+zaC % 2:Nat):Int):=by
    rw[show((zaC:Int).tmod 2)=((zaC % 2:Nat):Int)from rfl,zas (by omega),show(2:Int)+((zaC % 2:Nat):Int)=((2+zaC % 2:Nat):Int) by omega,zas (by omega)]
   have hac:a * (2+zaC % 2)<=100 * 3:=qbc ha (by omega);have hbig:a * (2+zaC % 2)* 2 ^ (c - 1 - j)<=300 * 2 ^ 4:=qbc hac (qbQ (by decide) (by omega));have hcc:w64 (((c:Nat):Int) - 1)=((c - 1:Nat):Int):=by rw[show((c:Nat):Int) - 1=((c - 1:Nat):Int) by omega,zas (by omega)]
   have hcj:w64 (((c - 1:Nat):Int) - (j:Int))=((c - 1 - j:Nat):Int):=by rw[show((c - 1:Nat):Int) - (j:Int)=((c - 1 - j:Nat):Int) by omega,zas (by omega)]
   rw[hw1,hcc,hcj,zbS (by omega),<- qaU,zas (by omega),zGf (by omega) (by omega),qaa];by_cases hbg:100<a * (2+zaC % 2)* 2 ^ (c - 1 - j)
   .obtain⟨ns',a',f1,f2⟩:=step 2 (by omega) (by omega) (by rw[qa6,<- hsplit]; exact hlow);refine⟨ns',a',f1,?_⟩;rw[show decide ((100:Int)<((a * (2+zaC % 2)* 2 ^ (c - 1 - j):Nat):Int))=true from qdz (by omega),qdw,qaa];exact f2
   obtain⟨ns',a',f1,f2⟩:=step (2+zaC % 2) (by omega) (by omega) (by omega);refine⟨ns',a',f1,?_⟩;rw[show decide ((100:Int)<((a * (2+zaC % 2)* 2 ^ (c - 1 - j):Nat):Int))=false from qdy (by omega),qdx,qaa];exact f2
  have:j=c:=by omega
  subst this;exact⟨ns,a,h1,by rw[zaH,qdy hj,qdx]⟩
structure L2Ok (num:List Nat) (g c:Nat) (cs:List Nat) (i:Nat) (ns:List NN):Prop where
 len:ns.length=c
 zae:ns.map (·.c)=cs
 done:∀(k v:Nat) (x:NN),k<i->num[k]? = some v->ns[v]? = some x->NodeOk num g cs k x
 left:∀(k v:Nat) (x:NN),i<=k->num[k]? = some v->ns[v]? = some x->x.ps=[]/\x.rows=[]
theorem zlD{m:Nat}(hm:1<=m):∀ {xs:List Nat},(∀ x∈xs,x<=m)->zab xs<=m ^ xs.length
 | [],_=>qao 1
 | x :: xs,h=>by
  have ih:=zlD hm (xs:=xs) λy hy=>h y (qag _ hy)
  rw[qay,qdu,qaV];exact qbc (h x qam) ih
theorem zyy(h:xs.Nodup){j w:Nat}(hi:xs[i]? = some v)(hj:xs[j]? = some w)(hne:i≠j):v≠w:=by
 obtain⟨h1,h2⟩:=qab.1 hi;obtain⟨h3,h4⟩:=qab.1 hj;intro he;rcases Nat.lt_or_gt_of_ne hne with hlt | hlt
 .exact qbo.1 h i j h1 h3 hlt (by rw[h2,h4,he])
 exact qbo.1 h j i h3 h1 hlt (by rw[h2,h4,he])
theorem zxR{d:DraftN}(hd:DraftOk d){num:List Nat}{c N:Nat}{cs:List Nat}(hc:zmX d=c)(hp:PermOk c num)(hs:∀ x∈cs,1<=x/\x<=3)(hN:1025<=N):∀(n i:Nat) (ns:List NN),L2Ok num (1+d.grain % 60) c cs i ns->i<=c->c - i<n ->
  ∃ ns':List NN,L2Ok num (1+d.grain % 60) c cs c ns'/\zbP N (zdm d) (iL num) n (i:Int) (ns.map nd)=some (ns'.map nd)
 | 0,_,_,_,_,h=>absurd h (qat _)
 | n+1,i,ns,h1,h2,h3=>by
  have hc5:c<=5:=by rw[<- hc]; exact qcE _ _
  unfold zbP;rw[zpE,hc];by_cases hi:i<c
  .rw[zaH,qdz hi,qdw];obtain⟨zaC,parents,w,hcard,e⟩:=zof hd (j:=i);rw[e,qaa];simp only[];have hin:i<num.length:=by rw[hp.len]; exact hi
   have hget:num[i]? = some num[i]:=qac hin;have hlen:=h1.len;have hcl:cs.length=c:=by rw[<- h1.zae,qar,h1.len]
   have hv:num[i]<ns.length:=by rw[h1.len]; exact hp.lt _ (qau hin)
   obtain⟨b1,b2⟩:=h1.left i num[i] ns[num[i]] (qao _) hget (qac hv);obtain⟨qs,e2,hq⟩:=zAT (num:=num) (ps8:=(parents:Int)) (i:=i) (ns:=ns) (v:=num[i]) (by omega) (by rw[hp.len]; omega) (by omega) hp.nod hv b1;rw[h1.len]at e2 hq;have hg:w64 (1+w64 ((zdm d).grain.tmod 60))=((1+d.grain % 60:Nat):Int):=by
    rw[show((zdm d).grain.tmod 60)=((d.grain % 60:Nat):Int)from rfl,zas (by omega),show(1:Int)+((d.grain % 60:Nat):Int)=((1+d.grain % 60:Nat):Int) by omega,zas (by omega)]
   have hset:(ns.set num[i] ⟨ns[num[i]].c,qs,ns[num[i]].rows⟩)[num[i]]'(by simpa using hv)=⟨ns[num[i]].c,qs,ns[num[i]].rows⟩:=by simp
   have hcs1:(ns.set num[i] ⟨ns[num[i]].c,qs,ns[num[i]].rows⟩).map (·.c)=cs:=by rw[zi9 (x:=⟨ns[num[i]].c,qs,ns[num[i]].rows⟩) hv rfl,h1.zae]
   have hcv:1<=ns[num[i]].c/\ns[num[i]].c<=3:=hs _ (by rw[<- h1.zae]; exact qaE.2 ⟨_,qau hv,rfl⟩);have hco:zek (ns.set num[i] ⟨ns[num[i]].c,qs,ns[num[i]].rows⟩) qs=qs.map λp=>cs.getD p 0:=by unfold zek; rw[hcs1]
   have hqs:∀ x∈(qs.map λp=>cs.getD p 0),1<=x/\x<=3:=by
    intro x hx;obtain⟨p,hpq,rfl⟩:=qaE.1 hx;have hpl:p<cs.length:=by rw[hcl]; exact hq.lt p hpq
    refine hs _ ?_;simp[hpl]
   have hprod:zab (qs.map λp=>cs.getD p 0)<=3 ^ 3:=by
    refine qan (zlD (m:=3) (by omega) λx hx=>(hqs x hx).2) ?_;rw[qar];exact qbQ (by decide) hq.len
   obtain⟨rows,r1,r2⟩:=zzz (g:=1+d.grain % 60) (N:=N) (W:=w) (ns:=ns.set num[i] ⟨ns[num[i]].c,qs,ns[num[i]].rows⟩) (v:=num[i]) (by omega) (by simp; omega) (by simpa using hv)
    (by rw[hset]; intro p hpq; rw[qaQ,h1.len]; exact hq.lt p hpq) (by rw[hset]; have:=hq.len; simp; omega) (by rw[hset]; exact hcv.1) (by rw[hset]; have:=hcv.2; simp; omega)
    (by rw[hset,hco]; exact λx hx=>(hqs x hx).1) (by rw[hset,hco]; exact qan hprod (by decide)) (by rw[hset]; exact b2) hN
   simp only[hset,hco,List.set_set]at r1 r2
   obtain⟨ns',f1,f2⟩:=zxR hd hc hp hs hN n (i+1) (ns.set num[i] ⟨ns[num[i]].c,qs,rows⟩) {
    len:=by simpa using h1.len
    zae:=by rw[zi9 (x:=⟨ns[num[i]].c,qs,rows⟩) hv rfl,h1.zae]
    done:=λk v x hk hkv hx=>by
     by_cases hki:k=i
     .subst hki;rw[hget]at hkv;have:=qaj hkv;subst this;rw[qaG hv]at hx;have:=qaj hx;subst this;exact⟨by rw[hcl]; exact hq,r1⟩
     rw[qap (zyy hp.nod hget hkv (by omega))]at hx;exact h1.done k v x (by omega) hkv hx
    left:=λk v x hk hkv hx=>by
     rw[qap (zyy hp.nod hget hkv (by omega))]at hx
     exact h1.left k v x (by omega) hkv hx } hi (by omega)
   refine⟨ns',f1,?_⟩;rw[zbf hin,qaa,e2,qaa,hg,r2,qaa,zak (by omega),f2]
  have:i=c:=by omega
  subst this;exact⟨ns,h1,by rw[zaH,qdy hi,qdx]⟩
theorem zwv{d:DraftN}(hd:DraftOk d)(hN:1025<=N):
  ∃(num:List Nat) (ns:List NN),NetOk num (1+d.grain % 60) ns/\ns.length<=5/\zcL N (zdm d)=some ⟨((1+d.grain % 60:Nat):Int),ns.map nd⟩:=by
 have hc5:zmX d<=5:=qcE _ _;have hc1:1<=zmX d:=by unfold zmX; omega
 obtain⟨num,hp,e1⟩:=zzA (c:=zmX d) (N:=N) (os:=d.order) (wh:=0) hc5 (by omega) hd.order;have hpl:=hp.len;have h0:∀ v,v<zmX d->(List.replicate (zmX d) (⟨0,[],[]⟩:NN))[v]? = some ⟨0,[],[]⟩:=λv hv=>by simp[hv]
 obtain⟨ns1,a,h1,e2⟩:=zyB hd rfl hp (zmX d+2) 0 1 (List.replicate (zmX d) ⟨0,[],[]⟩) {
  len:=by simp
  bare:=λx hx=>by rw[(qc4.1 hx).2]; exact⟨rfl,rfl⟩
  prod:=by
   rw[qc5];generalize zmX d=c;induction c with
   | zero=>rfl
   | succ c ih=>rw[qa1]; simp only[znz,qds]at ih ⊢; rw[ih]; rfl
  low:=by
   have:2 ^ (zmX d - 0)<=2 ^ 5:=qbQ (by decide) (by omega);omega
  done:=λk v hk hkv=>absurd hk (qat _)
  left:=λk v hk hkv=>⟨_,h0 v (hp.lt v (qaD hkv)),rfl⟩ } (qaz _) (by omega)
 have hcards:∀ x∈ns1,2<=x.c/\x.c<=3:=by
  intro x hx;obtain⟨v,hv⟩:=qbP hx;have hvl:v<zmX d:=by rw[<- h1.len]; exact(qab.1 hv).1
  obtain⟨k,hk⟩:=qbP (hp.all v hvl);obtain⟨y,g1,g2⟩:=h1.done k v (by rw[<- hpl]; exact(qab.1 hk).1) hk;rw[hv]at g1;have:=qaj g1;subst this;exact g2
 have hcs:∀ x∈ns1.map (·.c),1<=x/\x<=3:=by
  intro x hx;obtain⟨y,hy,rfl⟩:=qaE.1 hx;have:=hcards y hy;exact⟨by omega,this.2⟩
 obtain⟨ns2,h2,e3⟩:=zxR hd rfl hp hcs hN (zmX d+2) 0 ns1 ⟨h1.len,rfl,λk v x hk=>absurd hk (qat _),λk v x hk hkv hx=>h1.bare x (qaD hx)⟩ (qaz _) (by omega);have hl2:=h2.len;have hlow:=h1.low;refine⟨num,ns2,⟨by omega,by omega,by omega,by omega,?_,?_,by rw[h2.len]; exact hp,?_⟩,by omega,?_⟩
 .intro x hx;have:=hcs x.c (by rw[<- h2.zae]; exact qaE.2 ⟨x,hx,rfl⟩);omega
 .rw[h2.zae,<- zry λx hx=>(hcs x hx).1,h1.prod];rw[qcr,Nat.pow_zero]at hlow;omega
 .intro j v x hj hx;rw[h2.zae];exact h2.done j v x (by rw[<- hpl]; exact(qab.1 hj).1) hj hx
 have hg:w64 (1+w64 ((zdm d).grain.tmod 60))=((1+d.grain % 60:Nat):Int):=by
  rw[show((zdm d).grain.tmod 60)=((d.grain % 60:Nat):Int)from rfl,zas (by omega),show(1:Int)+((d.grain % 60:Nat):Int)=((1+d.grain % 60:Nat):Int) by omega,zas (by omega)]
 have hz:List.replicate (zmX d) (S_api_Node.mk 0 [] [])=(List.replicate (zmX d) (⟨0,[],[]⟩:NN)).map nd:=by rw[qc5]; rfl
 have e2':=e2;have e3':=e3;rw[show((0:Nat):Int)=0 from rfl]at e2' e3';rw[show((1:Nat):Int)=1 from rfl]at e2';unfold zcL;rw[zpE,zde (by omega),qaa,zde (by omega),qaa,show(zdm d).order=iL d.order from rfl,e1,qaa,zaI,hz,e2',qaa,e3',qaa,hg]
def zeL(xs:List Nat):Nat:=xs.foldl (λm p=>m ||| 2 ^ p) 0
theorem zxn(xs:List Nat)(p:Nat):zeL (xs ++ [p])=zeL xs ||| 2 ^ p:=by simp[zeL]
theorem znv:∀(xs:List Nat) (m i:Nat),(xs.foldl (λm p=>m ||| 2 ^ p) m).testBit i=(m.testBit i || decide (i∈xs))
 | [],m,i=>by simp
 | x :: xs,m,i=>by
  rw[qc1,znv xs,Nat.testBit_or,Nat.testBit_two_pow,Bool.or_assoc];congr 1
  by_cases h:x=i
  .simp[h]
  simp[h,show ¬ i=x from λq=>h q.symm]
theorem zmP(xs:List Nat)(i:Nat):(zeL xs).testBit i=decide (i∈xs):=by
 unfold zeL; rw[znv]; simp
theorem zri:∀(xs:List Nat) (m:Nat),m<18446744073709551616->(∀ x∈xs,x<64)->xs.foldl (λm p=>m ||| 2 ^ p) m<18446744073709551616
 | [],m,h,_=>h
 | x :: xs,m,h,hx=>zri xs _ (qdc (n:=64) h (qbX (by decide) (hx x qam))) λy hy=>hx y (qag _ hy)
theorem zmN{xs:List Nat}(h:∀ x∈xs,x<64):zeL xs<18446744073709551616:=zri xs 0 (by decide) h
def Sub(a b:Nat):Prop:=∀ i,a.testBit i=true->b.testBit i=true
theorem zvQ(ha:a<18446744073709551616)(hb:b<18446744073709551616):diff a b=0↔Sub a b:=by
 constructor
 .intro h i hi;have:=zqu (i:=i) ha hb;rw[h,hi]at this;simpa using this
 intro h;apply Nat.eq_of_testBit_eq;intro i;rw[zqu ha hb,Nat.zero_testBit];cases hi:a.testBit i with
 | false=>rfl
 | true=>rw[h i hi]; rfl
theorem zoo{cs ps:List Nat}{nodes:S_api_Net}{sets order:List Int}{x:S_api_Node}(hx:x.parents=iL ps)(hp:Pl cs.length ps)(hl:ps.length<=8)(hc:∀ p∈ps,1<=cs.getD p 0):∀(n i a:Nat),i<=ps.length ->
  a * zab ((ps.drop i).map λp=>cs.getD p 0)<=65536->ps.length - i<n ->
  zbc x ⟨nodes,iL cs,sets,order⟩ n (a:Int) (i:Int)=some ((a * zab ((ps.drop i).map λp=>cs.getD p 0):Nat):Int)
 | 0,_,_,_,_,h=>absurd h (qat _)
 | n+1,i,a,h1,h2,h3=>by
  unfold zbc;rw[hx,zal];by_cases hi:i<ps.length
  .have e2:a * zab ((ps.drop i).map λp=>cs.getD p 0)=a * cs.getD ps[i] 0 * zab ((ps.drop (i+1)).map λp=>cs.getD p 0):=by
    rw[qaA hi]; exact(qa6 _ _ _).symm
   rw[e2]at h2;have hb:ps[i]<cs.length:=hp _ (qau hi);have hq:1<=zab ((ps.drop (i+1)).map λp=>cs.getD p 0):=zcQ λx hx=>by
    obtain⟨p,hp1,rfl⟩:=qaE.1 hx;exact hc p (qcx hp1)
   have hle:a * cs.getD ps[i] 0<=65536:=qan (qaO _ hq) h2;have he:cs[ps[i]]=cs.getD ps[i] 0:=by simp[hb]
   rw[zaH,qdz hi,qdw,zbf hi,qaa,zbf hb,qaa,he,<- qaU,zas (by omega),zak (by omega),
    zoo hx hp hl hc n (i+1) _ hi h2 (by omega),e2]
  rw[zaH,qdy hi,qdx,qbb (by omega)];simp[zab]
theorem znr{y:Int×List Int}{zs:List Nat}(hy:y.2=iL zs)(hl:zs.length<=8):∀(n i r:Nat),i<=zs.length->(zs.drop i).sum<=r->r<=65536->zs.length - i<n ->
  zbb y n (r:Int) (i:Int)=some (.go ((r - (zs.drop i).sum:Nat):Int))
 | 0,_,_,_,_,_,h=>absurd h (qat _)
 | n+1,i,r,h1,h2,hr,h3=>by
  unfold zbb;rw[hy,zal];by_cases hi:i<zs.length
  .have e:(zs.drop i).sum=zs[i]+(zs.drop (i+1)).sum:=by rw[qaA hi,qc7]
   rw[e]at h2
   rw[zaH,qdz hi,qdw,zbf hi,qaa,show decide (((zs[i]:Nat):Int)<0)=false from qdy (by omega),qdx,qaa,
    show decide ((r:Int)<((zs[i]:Nat):Int))=false from qdy (by omega),qdx,show((r:Int) - ((zs[i]:Nat):Int))=((r - zs[i]:Nat):Int) by omega,zas (by omega),zak (by omega),
    znr hy hl n (i+1) _ hi (by omega) (by omega) (by omega),e,Nat.sub_sub]
  rw[zaH,qdy hi,qdx,qbb (by omega)];simp
theorem znl{g c:Nat}{nw:S_net_network}{x:S_api_Node}(hg:nw.net.grain=(g:Int))(hg2:g<=60)(hc:x.zaC=(c:Int))(hc8:c<=8):∀(L:List (Int×List Int)),(∀ y∈L,∃ zs:List Nat,y.2=iL zs/\zs.length=c/\zs.sum=g)->
  zaU nw x L=some (.go ())
 | [],_=>rfl
 | y :: L,h=>by
  obtain⟨zs,h1,h2,h3⟩:=h y qam;unfold zaU;have e:=znr h1 (by omega) (zs.length+2) 0 g (qaz _) (by rw[qbm]; omega) (by omega) (by omega);rw[qbm,h3,qcr,show((0:Nat):Int)=0 from rfl]at e;rw[hg,h1,zal,zaI,e,qaa];simp only[];rw[hc,h2,show((c:Int)==(c:Int))=true by simp,qdw,qaa,show(!((0:Int)== 0))=false from rfl,qdx];exact znl hg hg2 hc hc8 L λy hy=>h y (qag _ hy)
theorem zto{cs:List Nat}{nodes:List S_api_Node}{sets order:List Int}{x:NN}(hg2:g<=60)(hp:Pl cs.length x.ps)(hl:x.ps.length<=8)(hc:∀ p∈x.ps,1<=cs.getD p 0)(hc8:x.c<=8)(hm:zab (x.ps.map λp=>cs.getD p 0)<=65536)(hr:RowsOk g x.c (zab (x.ps.map λp=>cs.getD p 0)) x.rows):zbC ⟨⟨(g:Int),nodes⟩,iL cs,sets,order⟩ (nd x)=some true:=by
 unfold zbC;have e:=zoo (x:=nd x) (nodes:=⟨(g:Int),nodes⟩) (sets:=sets) (order:=order) rfl hp hl hc (x.ps.length+2) 0 1 (qaz _) (by simpa using hm) (by omega);rw[show((0:Nat):Int)=0 from rfl,show((1:Nat):Int)=1 from rfl,qbm,qbh]at e;have hrl:(nd x).rows.length=x.rows.length:=by simp[nd]
 rw[show(nd x).parents=iL x.ps from rfl,zal,zaI,e,qaa,hrl,hr.len,show(((zab (x.ps.map λp=>cs.getD p 0):Nat):Int)==((zab (x.ps.map λp=>cs.getD p 0):Nat):Int))=true by simp,qdw];unfold ze8;rw[qaa];have hs:zeR (nd x).rows=some ():=by
  unfold zeR;rw[if_pos (by rw[hrl,hr.len]; omega)]
 rw[hs,qaa,znl (g:=g) (c:=x.c) rfl hg2 rfl hc8,qaa];intro y hy;unfold zuk at hy;obtain⟨q,hq,rfl⟩:=qaE.1 hy;have hq1:q.1∈(nd x).rows:=by
  have:=List.mem_zipIdx' hq;rw[this.2]; exact qau _
 obtain⟨zs,hz,hz2⟩:=qaE.1 hq1;exact⟨zs,hz2.symm,hr.row zs hz⟩
theorem zld(cs:List Nat):∀(i:Nat) (h:i<cs.length),zab (cs.drop i)=cs[i] * zab (cs.drop (i+1)):=by
 intro i h;rw[qaA h]; rfl
theorem zyh{f:Fc}(hf:FcOk f){us:List Nat}(hs:Sel f us):∀(n i a:Nat),i<=us.length->us.length - i<n->a * zab ((cof f us).drop i)<=4096->1<=a ->
  zaE (iL us) f.T n (a:Int) (i:Int) (iL ((cof f us).take i ++ List.replicate (us.length - i) 0))=some (((a * zab ((cof f us).drop i):Nat):Int),iL (cof f us))
 | 0,_,_,_,h,_,_=>absurd h (qat _)
 | n+1,i,a,hi,hn,ha,h1=>by
  have hl:=zoW hf hs;have hcl:(cof f us).length=us.length:=by simp[cof]
  unfold zaE;rw[zal];rcases qaY i us.length with h3 | h3
  .have h3c:i<(cof f us).length:=by omega
   have hcc:=(zgW hf hs).zaC (cof f us)[i] (qau h3c);have hpos:0<zab ((cof f us).drop (i+1)):=zb8 λc hc=>(zgW hf hs).zaC c (qcx hc)
   have e0:=zld (cof f us) i h3c;have ea:a * zab ((cof f us).drop i)=a * (cof f us)[i] * zab ((cof f us).drop (i+1)):=by rw[e0,qa6]
   have hle:a * (cof f us)[i]<=4096:=qan (qaO _ hpos) (ea ▸ ha);have ih:=zyh hf hs n (i+1) (a * (cof f us)[i]) h3 (by omega) (ea ▸ ha) (qc0 (by omega) (by omega));have ht:((cof f us).take i).length=i:=by simp; omega
   have e:List.replicate (us.length - i) 0=0 :: List.replicate (us.length - (i+1)) 0:=by
    rw[show us.length - i=(us.length - (i+1))+1 by omega,qa1]
   rw[qcv h3c,qaI,qaT]at ih;obtain⟨k,hk⟩:=zjG (hs.mem us[i] (qau h3));have ec:at_ f.vs f.cs us[i]=(cof f us)[i]:=by simp[cof]
   rw[zyj h3,qdw,zbf h3,qaa,ziB hf,qaa,zdv,hk,show f.T.factor=f.D from rfl,ziv hf hk,qaa,ec,e,zcX ht,qaa,zeo ht,qaa,<- qaU,zas (by omega),zak (by omega),ea];exact ih
  obtain rfl:i=us.length:=by omega
  rw[zyd,qdx,qcr,qcg,qaZ,qaS (by omega),qci (by omega),show zab ([]:List Nat)=1 from rfl,qb1]
theorem zjK{g:Nat->Nat}{p:Nat}:∀ {vs:List Nat} {v k:Nat},vs.Nodup->pos vs v=some k->(vs.map g).set k p=vs.map λu=>bif v == u then p else g u
 | [],_,_,_,h=>by cases h
 | u :: us,v,k,hn,h=>by
  obtain⟨h1,h2⟩:=qa7.1 hn;rw[show pos (u :: us) v=bif u == v then some 0 else(pos us v).map (· + 1)from rfl]at h;cases hb:(u == v)with
  | true=>
   rw[hb,qdw]at h;cases h;have:u=v:=by simpa using hb
   subst this;rw[qaH,qaH,qb9,qdB,qdw];refine congrArg (p :: ·) (qbs λx hx=>?_);rw[show(u == x)=false from qdC (λe=>h1 (e ▸ hx)),qdx]
  | false=>
   rw[hb,qdx]at h;cases hp:pos us v with
   | none=>rw[hp]at h; cases h
   | some j=>
    rw[hp]at h;cases h;rw[qaH,qaH,qcq,zjK h2 hp,show(v == u)=false from qdC (λe=>ne_of_beq_false hb e.symm),qdx]
theorem zyU{f:Fc}(hf:FcOk f){us:List Nat}(hs:Sel f us):∀(k n:Nat),k<=us.length->k<n ->
  zau (iL us) f.T (iL (cof f us)) n ((zab ((cof f us).drop k):Nat):Int) ((k:Int) - 1) (iL (f.vs.map (stp (us.drop k) ((cof f us).drop k))))=some (iL (f.vs.map (stp us (cof f us))))
 | _,0,_,h=>absurd h (qat _)
 | 0,n+1,_,_=>by
  unfold zau;rw[show decide ((0:Int)<=((0:Nat):Int) - 1)=false from rfl,qdx,qbm,qbm]
 | k+1,n+1,hk,hn=>by
  have hl:=zoW hf hs;have hD:=zgW hf hs;have hcl:(cof f us).length=us.length:=by simp[cof]
  have h3:k<us.length:=hk;have h3c:k<(cof f us).length:=by omega
  have ih:=zyU hf hs k n (by omega) (by omega);have e0:=zld (cof f us) k h3c;have hle:zab ((cof f us).drop k)<=4096:=qan (zhp (λc hc=>(hD.zaC c hc).1) k) hD.prod;obtain⟨j,hj⟩:=zjG (hs.mem us[k] (qau h3));obtain⟨hj2,_⟩:=zdb hj;have em:(f.vs.map (stp (us.drop (k+1)) ((cof f us).drop (k+1)))).set j (zab ((cof f us).drop (k+1)))=f.vs.map (stp (us.drop k) ((cof f us).drop k)):=by
   rw[zjK (za5 hf.inc) hj,qaA h3,qaA h3c];rfl
  unfold zau;rw[pred_succ,zFx,qdw,zbf h3,qaa,ziB hf,qaa,zdv,hj,show ixZ (some j)=(j:Int)from rfl,zeB (by simpa using hj2),qaa,zEM (by simpa using hj2),qaa,zbf h3c,qaa,<- qaU,qaV,<- e0,zas (by omega),zf7 (by omega) (by omega),em];exact ih
theorem zyX{f:Fc}(hf:FcOk f){us:List Nat}(hs:Sel f us){x:Int}:∀(m i:Nat) (l:List Nat),i+m=zab f.cs->l.length=zab (cof f us)->(∀ x∈l,x<=zc2)->
  ∃ z,zaw f.T x (zh9 f.cs (f.vs.map (stp us (cof f us))) i m) (iL l)=some (match zjk false f us m i l with | some l'=>.go (iL l')| none=>.brk z)
 | 0,i,l,_,_,_=>⟨[],rfl⟩
 | m+1,i,l,h,hl,hb=>by
  have hi:i<zab f.cs:=by omega
  have hk:=zCi hf hs hi;have hkl:ix f us i<l.length:=by omega
  have g1:=zAr hb (ix f us i);have g2:=Fc.zyu hf i;have e:=zAH (b:=false) g1 g2;rw[qdx]at e;rw[zgE,zBB hf hs];have es:zd4 ((l.getD (ix f us i) 0:Nat):Int) ((f.get i:Nat):Int)=some (((gop false (l.getD (ix f us i) 0) (f.get i):Nat):Int),decide (gop false (l.getD (ix f us i) 0) (f.get i)<=zc2)):=by
   unfold zd4;rw[e];refine congrArg (λb:Bool=>some (((gop false (l.getD (ix f us i) 0) (f.get i):Nat):Int),b)) (decide_eq_decide.2 ⟨λh=>?_,λh=>?_⟩)
   .show _<=4611686018427387903; omega
   have:_<=4611686018427387903:=h; omega
  have e1:∀ ys,zaw f.T x (((i:Int),((ix f us i:Nat):Int),iL (dig f.cs i)):: ys) (iL l)=bif decide (gop false (l.getD (ix f us i) 0) (f.get i)<=zc2)then zaw f.T x ys (iL (l.set (ix f us i) (gop false (l.getD (ix f us i) 0) (f.get i))))else some (.brk (iL (l.set (ix f us i) (gop false (l.getD (ix f us i) 0) (f.get i))))):=by
   intro ys;show(zaO (iL l) ((ix f us i:Nat):Int)).bind _=_;rw[zeB hkl,qaa];simp only[];rw[show zaO f.T.factor.w (i:Int)=some ((f.get i:Nat):Int)from zBJ hf hi,qaa,es,qaa];simp only[];rw[zEM hkl,qaa]
  rw[e1];unfold zjk;cases hd:decide (gop false (l.getD (ix f us i) 0) (f.get i)<=zc2)with
  | false=>exact⟨_,rfl⟩
  | true=>
   rw[qdw,qdw];refine zyX hf hs m (i+1) _ (by omega) (by rw[qaQ]; exact hl) λx hx=>?_
   rcases qct hx with h1 | h1
   .exact hb x h1
   rw[h1]; exact of_decide_eq_true hd
theorem zAD(f:Fc):f.vs.map (stp [] [])=List.replicate f.vs.length 0:=by
 rw[List.eq_replicate_iff];refine⟨by simp,λx hx=>?_⟩;obtain⟨v,_,rfl⟩:=qaE.1 hx;simp[stp]
variable{f:Fc}{us:List Nat}
theorem zBx(hf:FcOk f)(hs:Sel f us)(v:Nat):stp us (cof f us) v<=4096:=by
 have hD:=zgW hf hs;rw[zka hD.len];cases hp:pos us v with
 | none=>exact qaz _
 | some k=>
  simp only;by_cases h:k<(zaB (cof f us)).length
  .rw[qai,qac h];exact zlx (λc hc=>(hD.zaC c hc).1) hD.prod _ (qau h)
  rw[qai,qaW (by omega)];exact qaz _
theorem zws(hf:FcOk f)(hs:Sel f us):za9 f.T (iL us)=some (match gat false f us with | some l=>(⟨iL us,iL (cof f us),iL l⟩,0)| none=>(noF,6)):=by
 have hl:=zoW hf hs;have hD:=zgW hf hs;have hp:=hD.prod;have hpf:=hf.prod;have hfl:=hf.le;have hfl2:=hf.len;have hcl:(cof f us).length=us.length:=by simp[cof]
 unfold za9;have h1:=zyh hf hs (us.length+2) 0 1 (qaz _) (by omega) (by rw[qbm]; omega) (qao _);rw[qb2,qa4,qco,zfW,qbm,qbh]at h1;rw[zal,zde (by omega),qaa,zaI,show zaE (iL us) f.T (us.length+2) 1 0 (List.replicate us.length 0)=_ from h1,qaa];simp only[];rw[zde (by omega),qaa,show f.T.factor.vars=iL f.vs from rfl,zal,zde (by omega),qaa,zf7 (by omega) (by omega),show(((us.length:Int) - 1) - 0+2).toNat=us.length+1 by omega];have h2:=zyU hf hs us.length (us.length+1) (qao _) (by omega);rw[qbq,qci (by omega),zAD,zfW,show zab ([]:List Nat)=1 from rfl]at h2;rw[show zau (iL us) f.T (iL (cof f us)) (us.length+1) 1 ((us.length:Int) - 1) (List.replicate f.vs.length 0)=_ from h2,qaa,zhm,qaa];simp only[];rw[show f.T.factor.zae=iL f.cs from rfl,zvc hf.zaC hf.le hf.prod (by rw[qar,hf.len]) (λs hs2=>by obtain⟨v,_,rfl⟩:=qaE.1 hs2; exact zBx hf hs v),qaa];obtain⟨z,h3⟩:=zyX hf hs (x:=((zab (cof f us):Nat):Int)) (zab f.cs) 0 (List.replicate (zab (cof f us)) 0) (by omega) (by simp) zro;rw[<- zfW,h3,qaa];unfold gat;cases zjk false f us (zab f.cs) 0 (List.replicate (zab (cof f us)) 0)<;> rfl
def rest(f:Fc)(v:Nat):List Nat:=f.vs.filter λu=>!(u == v)
theorem zhI(hf:FcOk f)(v:Nat):Sel f (rest f v):=⟨qbl _ hf.inc,λu hu=>(qaJ.1 hu).1⟩
theorem zp3:∀ {vs:List Nat},v ∉ vs->vs.filter (λu=>!(u == v))=vs:=λ{vs} h=>List.filter_eq_self.2 λu hu=>by
 rw[show(u == v)=false from qdC (λe=>h (e ▸ hu))]; rfl
theorem zpf:∀ {vs:List Nat} {v k:Nat},vs.Nodup->pos vs v=some k->vs.take k ++ vs.drop (k+1)=vs.filter λu=>!(u == v)
 | [],_,_,_,h=>by cases h
 | u :: us,v,k,hn,h=>by
  obtain⟨h1,h2⟩:=qa7.1 hn;rw[show pos (u :: us) v=bif u == v then some 0 else(pos us v).map (· + 1)from rfl]at h;cases hb:(u == v)with
  | true=>
   rw[hb,qdw]at h;cases h;have:u=v:=by simpa using hb
   subst this;rw[qbi (by simp),zp3 h1];rfl
  | false=>
   rw[hb,qdx]at h;cases hp:pos us v with
   | none=>rw[hp]at h; cases h
   | some j=>
    rw[hp]at h;cases h;rw[qbj (by rw[hb]; rfl),<- zpf h2 hp];rfl
theorem zES(h:k<xs.length)(hl:xs.length<1000):zvx (iL xs) (k:Int) (w64 ((k:Int)+1))=some (iL (xs.take k ++ xs.drop (k+1))):=by
 rw[zak (by omega)];unfold zvx;rw[if_pos ⟨⟨by omega,by omega,by rw[zal]; omega⟩,by rw[zal]; omega⟩,qaL,qaL];simp[iL]
def zGa(o:Option (List Nat))(f:Fc)(us:List Nat):S_api_Factor×Int:=match o with
 | some l=>(⟨iL us,iL (cof f us),iL l⟩,0)
 | none=>(noF,6)
theorem znU(hf:FcOk f)(hp:pos f.vs v=some k):zd5 8 (iL f.vs)=some (iL f.vs)/\zvx (iL f.vs) (k:Int) (w64 ((k:Int)+1))=some (iL (rest f v)):=by
 have h1:=hf.le;have h2:=hf.len;obtain⟨hk,_⟩:=zdb hp;refine⟨zgv (by rw[zal]; omega),?_⟩;rw[zES hk (by omega),zpf (za5 hf.inc) hp];rfl
theorem zDY(hf:FcOk f)(hp:pos f.vs v=some k):zbH f.D (v:Int)=some (zGa (gat false f (rest f v)) f (rest f v)):=by
 obtain⟨h1,h2⟩:=znU hf hp;unfold zbH zcU;rw[zi5 hf,qaa];simp only[];rw[show((0:Int)== 0)=true from rfl,qdw,ziB hf,qaa,zdv,hp,show ixZ (some k)=(k:Int)from rfl,show decide ((k:Int)<0)=false from qdy (by omega),qdx,show f.T.factor.vars=iL f.vs from rfl,h1,qaa,h2,qaa,zws hf (zhI hf v),qaa];cases gat false f (rest f v)<;> rfl
def gF(f:Fc)(us l:List Nat):Fc:=⟨us,cof f us,l⟩
theorem zDP(hf:FcOk f){l:List Nat}(hs:Sel f us){b:Bool}(h:gat b f us=some l):FcOk (gF f us l):=by
 have hD:=zgW hf hs;exact⟨hD.len,hD.le,hD.zaC,hD.prod,(znE h).trans (by simp[gF]),hs.inc,λv hv=>hf.var v (hs.mem v hv),zrm zro h⟩
def ziy:List Nat->Nat->Nat->Nat->Nat
 | [],_,_,i=>i
 | _ :: cs,0,p,i=>p * zab cs+i
 | _ :: cs,k+1,p,i=>(i / zab (cs.eraseIdx k))* zab cs+ziy cs k p (i % zab (cs.eraseIdx k))
theorem zff{cs:List Nat}(h:∀ c∈cs,1<=c/\c<=8)(k:Nat):∀ c∈cs.eraseIdx k,1<=c/\c<=8:=λc hc=>h c (List.mem_of_mem_eraseIdx hc)
theorem zl6:∀ {cs:List Nat} {k p i:Nat},(∀ c∈cs,1<=c/\c<=8)->(hk:k<cs.length)->p<cs[k]->i<zab (cs.eraseIdx k)->ziy cs k p i<zab cs
 | [],k,_,_,_,hk,_,_=>by simp at hk
 | c :: cs,0,p,i,_,_,hp,hi=>by
  have h1:(p+1)* zab cs<=c * zab cs:=qav _ hp;have h2:i<zab cs:=hi;show p * zab cs+i<c * zab cs;rw[qaM]at h1;omega
 | c :: cs,k+1,p,i,hc,hk,hp,hi=>by
  have hc2:=λd hd=>hc d (qag c hd)
  have hi2:i<c * zab (cs.eraseIdx k):=hi;have hq:0<zab (cs.eraseIdx k):=zb8 (zff hc2 k);have h1:=zl6 hc2 (by simpa using hk) hp (qbp i hq);have h2:i / zab (cs.eraseIdx k)<c:=qbR (by rwa [qaV]);have h3:(i / zab (cs.eraseIdx k)+1)* zab cs<=c * zab cs:=qav _ h2;show i / zab (cs.eraseIdx k)* zab cs+ziy cs k p (i % zab (cs.eraseIdx k))<c * zab cs;rw[qaM]at h3;omega
theorem dm1{P:Nat}(h:b<P):(a * P+b) / P=a:=by
 rw[qb0,qcs _ _ (by omega),qbZ h,qaR]
theorem dm2{P:Nat}(h:b<P):(a * P+b) % P=b:=by
 rw[qb0,qbF,qbe h]
theorem zmL:∀ {cs:List Nat} {k p i:Nat},(∀ c∈cs,1<=c/\c<=8)->(hk:k<cs.length)->p<cs[k]->i<zab (cs.eraseIdx k)->(dig cs (ziy cs k p i)).getD k 0=p/\(dig cs (ziy cs k p i)).eraseIdx k=dig (cs.eraseIdx k) i
 | [],k,_,_,_,hk,_,_=>by simp at hk
 | c :: cs,0,p,i,_,_,hp,hi=>by
  have hi2:i<zab cs:=hi;rw[show dig (c :: cs) (ziy (c :: cs) 0 p i)=(p * zab cs+i) / zab cs :: dig cs ((p * zab cs+i) % zab cs)from rfl,dm1 hi2,dm2 hi2];exact⟨rfl,rfl⟩
 | c :: cs,k+1,p,i,hc,hk,hp,hi=>by
  have hc2:=λd hd=>hc d (qag c hd)
  have hq:0<zab (cs.eraseIdx k):=zb8 (zff hc2 k);have h1:=zl6 hc2 (by simpa using hk) hp (qbp i hq);obtain⟨h2,h3⟩:=zmL hc2 (by simpa using hk) hp (qbp i hq);rw[show dig (c :: cs) (ziy (c :: cs) (k+1) p i)=(i / zab (cs.eraseIdx k)* zab cs+ziy cs k p (i % zab (cs.eraseIdx k))) / zab cs :: dig cs ((i / zab (cs.eraseIdx k)* zab cs+ziy cs k p (i % zab (cs.eraseIdx k))) % zab cs)from rfl,dm1 h1,dm2 h1];refine⟨by rw[List.getD_cons_succ]; exact h2,?_⟩;rw[qc8,h3];rfl
theorem zrt:∀ {cs:List Nat} {k p j:Nat},(∀ c∈cs,1<=c/\c<=8)->(hk:k<cs.length)->j<zab cs->(dig cs j).getD k 0=p->∃ i,i<zab (cs.eraseIdx k)/\ziy cs k p i=j
 | [],k,_,_,_,hk,_,_=>by simp at hk
 | c :: cs,0,p,j,hc,_,hj,hd=>by
  have hp:0<zab cs:=zb8 λd hd=>hc d (qag c hd)
  have e:j / zab cs=p:=hd;refine⟨j % zab cs,qbp _ hp,?_⟩;show p * zab cs+j % zab cs=j;rw[<- e,qaV,qb8]
 | c :: cs,k+1,p,j,hc,hk,hj,hd=>by
  have hc2:=λd hd=>hc d (qag c hd)
  have hp:0<zab cs:=zb8 hc2;have hj2:j<c * zab cs:=hj;have e:(dig cs (j % zab cs)).getD k 0=p:=by rw[<- hd]; rfl
  obtain⟨i,h1,h2⟩:=zrt hc2 (by simpa using hk) (qbp _ hp) e;have ha:j / zab cs<c:=qbR (by rwa [qaV]);refine⟨j / zab cs * zab (cs.eraseIdx k)+i,?_,?_⟩
  .show _<c * zab (cs.eraseIdx k);have h3:(j / zab cs+1)* zab (cs.eraseIdx k)<=c * zab (cs.eraseIdx k):=qav _ ha;rw[qaM]at h3;omega
  show(j / zab cs * zab (cs.eraseIdx k)+i) / zab (cs.eraseIdx k)* zab cs+ziy cs k p ((j / zab cs * zab (cs.eraseIdx k)+i) % zab (cs.eraseIdx k))=j;rw[dm1 h1,dm2 h1,h2,qaV,qb8]
theorem zqW:∀ {cs:List Nat} {k p i:Nat},(∀ c∈cs,1<=c/\c<=8)->(hk:k<cs.length)->i<zab (cs.eraseIdx k)->dot (dig (cs.eraseIdx k) i) ((zaB cs).eraseIdx k)+p * (zaB cs).getD k 0=ziy cs k p i
 | [],k,_,_,_,hk,_=>by simp at hk
 | c :: cs,0,p,i,hc,_,hi=>by
  have h:dot (dig cs i) (zaB cs)=i:=zih (λd hd=>hc d (qag c hd)) hi;show dot (dig cs i) (zaB cs)+p * zab cs=p * zab cs+i;omega
 | c :: cs,k+1,p,i,hc,hk,hi=>by
  have hc2:=λd hd=>hc d (qag c hd)
  have hq:0<zab (cs.eraseIdx k):=zb8 (zff hc2 k);have ih:=zqW (p:=p) hc2 (show k<cs.length by simpa using hk) (qbp i hq);rw[qc8,show zaB (c :: cs)=zab cs :: zaB cs from rfl,qc8,List.getD_cons_succ];show i / zab (cs.eraseIdx k)* zab cs+dot (dig (cs.eraseIdx k) (i % zab (cs.eraseIdx k))) ((zaB cs).eraseIdx k)+p * (zaB cs).getD k 0=i / zab (cs.eraseIdx k)* zab cs+ziy cs k p (i % zab (cs.eraseIdx k));omega
theorem zzK{cs:List Nat}(hn:us.Nodup)(hl:us.length=cs.length):us.map (stp us cs)=zaB cs:=by
 refine qcm (by rw[qar,zgo,hl]) λi h1 h2=>?_
 have hi:i<us.length:=by simpa using h1
 have hp:∀ {xs:List Nat} {i:Nat} (hn:xs.Nodup) (h:i<xs.length),pos xs xs[i]=some i:=by
  intro xs;induction xs with
  | nil=>intro i _ h; simp at h
  | cons x xs ih=>
   intro i hn h;obtain⟨h1,h2⟩:=qa7.1 hn;cases i with
   | zero=>rw[show(x :: xs)[0]=x from rfl,show pos (x :: xs) x=bif x == x then some 0 else(pos xs x).map (· + 1)from rfl,qdB,qdw]
   | succ i=>
    have hi:i<xs.length:=by simpa using h
    rw[show(x :: xs)[i+1]=xs[i]from rfl,show pos (x :: xs) xs[i]=bif x == xs[i]then some 0 else(pos xs xs[i]).map (· + 1)from rfl,show(x == xs[i])=false from qdC (λe=>h1 (e ▸ qau hi)),qdx,ih h2 hi];rfl
 rw[qdl,zka hl,hp hn hi];simp only;rw[qai,qac h2];rfl
theorem erase_eq(xs:List α)(k:Nat):xs.take k ++ xs.drop (k+1)=xs.eraseIdx k:=(List.eraseIdx_eq_take_drop_succ xs k).symm
theorem zh2{β:Type}(g:α->β)(xs:List α)(k:Nat):(xs.eraseIdx k).map g=(xs.map g).eraseIdx k:=by
 rw[<- erase_eq,<- erase_eq,qbD,List.map_take,List.map_drop]
theorem zmz(hf:FcOk f)(hp:pos f.vs v=some k):rest f v=f.vs.eraseIdx k:=by
 rw[<- erase_eq,zpf (za5 hf.inc) hp]; rfl
theorem zgr(hf:FcOk f)(hp:pos f.vs v=some k):cof f (rest f v)=f.cs.eraseIdx k:=by
 unfold cof;rw[zmz hf hp,zh2,zoq (za5 hf.inc) hf.len]
theorem zkR:∀ {cs:List Nat} {k:Nat} (h:k<cs.length),zab cs=cs[k] * zab (cs.eraseIdx k)
 | [],_,h=>by simp at h
 | c :: cs,0,_=>rfl
 | c :: cs,k+1,h=>by
  have hk:k<cs.length:=by simpa using h
  have ih:=zkR hk;show c * zab cs=cs[k] * (c * zab (cs.eraseIdx k));rw[ih,qcQ]
def fixF(f:Fc)(v k p:Nat):Fc:=⟨rest f v,f.cs.eraseIdx k,(List.range' 0 (zab (f.cs.eraseIdx k))).map λj=>f.get (ziy f.cs k p j)⟩
theorem zyk{f:Fc}(hf:FcOk f){k p:Nat}{q:Int}(hk:k<f.cs.length)(hp:p<f.cs[k]):∀(m i:Nat) (ys:List Nat),i+m=zab (f.cs.eraseIdx k)->ys.length=i ->
  zch (f.T,0) (k:Int) (p:Int) q (zh9 (f.cs.eraseIdx k) ((zaB f.cs).eraseIdx k) i m) (iL (ys ++ List.replicate m 0))=some (iL (ys ++ (List.range' i m).map λj=>f.get (ziy f.cs k p j)))
 | 0,i,ys,_,_=>by simp[zh9,zch]
 | m+1,i,ys,h,hy=>by
  have hi:i<zab (f.cs.eraseIdx k):=by omega
  have hpf:=hf.prod;have h1:=zl6 hf.zaC hk hp hi;have h2:=zqW (p:=p) hf.zaC hk hi;have hks:k<(zaB f.cs).length:=by rw[zgo]; exact hk
  rw[zgE];show(zaO (iL (zaB f.cs)) (k:Int)).bind _=_;rw[zeB hks,qaa];simp only[];rw[<- qaU,zas (by omega),<- qbM,h2,zas (by omega),show zaO (f.T,(0:Int)).1.factor.w ((ziy f.cs k p i:Nat):Int)=some ((f.get (ziy f.cs k p i):Nat):Int)from zBJ hf h1,qaa];rw[qa1,zcX hy,qaa,zeo hy,qaa,show ys ++ f.get (ziy f.cs k p i):: List.replicate m 0=(ys ++ [f.get (ziy f.cs k p i)])++ List.replicate m 0 by simp,zyk hf hk hp m (i+1) _ (by omega) (by simp[hy]),qca,qaH,qaI,qaT]
theorem zzE(hf:FcOk f)(hv:pos f.vs v=some k)(hk:k<f.cs.length)(hp:p<f.cs[k]):zcA f.D (v:Int) (p:Int)=some ((fixF f v k p).D,0):=by
 have hl:=hf.le;have hpf:=hf.prod;have hck:=hf.zaC f.cs[k] (qau hk);have e0:=zkR hk;have hE:zab (f.cs.eraseIdx k)<=zab f.cs:=by rw[e0]; exact qcj _ (by omega)
 obtain⟨h1,h2⟩:=znU hf hv;have hn:=za5 hf.inc;have hrl:(rest f v).length<=100:=by
  have:=(qdi (λu=>!(u == v)) f.vs); have:=hf.len; unfold rest; omega
 have hel:(f.cs.eraseIdx k).length<=12:=qan (List.eraseIdx_sublist _ _).length_le hl;unfold zcA;rw[zi5 hf,qaa];simp only[]
 rw[show((0:Int)== 0)=true from rfl,qdw,ziB hf,qaa,zdv,hv,show ixZ (some k)=(k:Int)from rfl,show decide ((k:Int)<0)=false from qdy (by omega),qdx,show decide ((p:Int)<0)=false from qdy (by omega),qdx,show f.T.factor.zae=iL f.cs from rfl,zbf hk,qaa,show decide (((f.cs[k]:Nat):Int)<=(p:Int))=false from qdy (by omega),qaa,qdx,show f.T.factor.vars=iL f.vs from rfl,h1,qaa,h2,qaa,zgv (by rw[zal]; omega),qaa,zES hk (by omega),erase_eq,qaa,qaa,show f.T.factor.w=iL f.ws from rfl,zal,hf.size,zDA (by omega) (by show _<=4611686018427387903; omega),qaa,
  show zab f.cs / f.cs[k]=zab (f.cs.eraseIdx k) by rw[e0,Nat.mul_div_cancel_left _ (by omega)],zde (by omega),qaa,zo9 hf hrl,qaa,zhm,qaa]
 simp only[];have es:(rest f v).map (stp f.vs f.cs)=(zaB f.cs).eraseIdx k:=by rw[zmz hf hv,zh2,zzK hn hf.len]
 rw[es,zvc (zff hf.zaC k) hel (by omega) (by rw[List.length_eraseIdx,List.length_eraseIdx,zgo]) (λs hs=>zlx (λc hc=>(hf.zaC c hc).1) hf.prod s (List.mem_of_mem_eraseIdx hs)),qaa];have e2:=zyk hf (q:=((zab (f.cs.eraseIdx k):Nat):Int)) hk hp (zab (f.cs.eraseIdx k)) 0 [] (by omega) rfl;rw[qa4]at e2;rw[<- zfW,e2,qaa];rfl
theorem zAw(hf:FcOk f)(hv:pos f.vs v=some k)(hk:k<f.cs.length)(p:Nat):FcOk (fixF f v k p):=by
 have hs:=zhI hf v;have hD:=zgW hf hs;rw[zgr hf hv]at hD;refine⟨hD.len,hD.le,hD.zaC,hD.prod,by simp[fixF],hs.inc,λu hu=>hf.var u (hs.mem u hu),λw hw=>?_⟩;obtain⟨j,_,rfl⟩:=qaE.1 hw;exact Fc.zyu hf _
section
variable {p1 p2 p4:Int} {x9:S_api_Factor}
end
section
variable {p1 p2 p4:Int} {x y:S_api_Factor}
end
section
variable {x:S_api_Factor} {p3:Int}
end
section
variable {y4 l1:List Int} {x:S_api_Factor}
end
section
variable {r6 r8:S_api_Factor} {p3:Int} {y4:List Int}
end
def Fc.val(f:Fc)(s:Nat->Nat):Nat:=f.get (dot (f.vs.map s) (zaB f.cs))
theorem zyF(f:Fc)(u ds:List Nat):f.at u ds=f.val (at_ u ds):=rfl
def Fit(f:Fc)(s:Nat->Nat):Prop:=∀ v∈f.vs,s v<at_ f.vs f.cs v
theorem zj5{s:Nat->Nat}:∀ {us cs:List Nat},us.length=cs.length->us.Nodup->(∀ c∈cs,1<=c/\c<=8)->(∀ v∈us,s v<at_ us cs v)->zcK cs (us.map s)
 | [],[],_,_,_,_=>trivial
 | [],c :: cs,h,_,_,_=>by simp at h
 | u :: us,[],h,_,_,_=>by simp at h
 | u :: us,c :: cs,hl,hn,hc,h=>by
  obtain⟨h1,h2⟩:=qa7.1 hn;have hu:=h u qam;rw[zfr,qdB,qdw]at hu;refine⟨hu,(hc c qam).2,zj5 (by simpa using hl) h2 (λd hd=>hc d (qag _ hd)) λv hv=>?_⟩;have:=h v (qag _ hv)
  rwa [zfr,show(u == v)=false from qdC (λe=>h1 (e ▸ hv)),qdx]at this
variable{f:Fc}{s:Nat->Nat}
theorem Fit.below(hf:FcOk f)(h:Fit f s):zcK f.cs (f.vs.map s):=zj5 hf.len (za5 hf.inc) hf.zaC h
variable{i:Nat}
theorem zs6(hf:FcOk f)(hi:i<zab f.cs):f.val (at_ f.vs (dig f.cs i))=f.get i:=by
 unfold Fc.val;rw[zoq (za5 hf.inc) (by rw[zfC,hf.len]),zih hf.zaC hi]
theorem val_congr{f:Fc}{t:Nat->Nat}(h:∀ v∈f.vs,s v=t v):f.val s=f.val t:=by
 unfold Fc.val;rw[qbs h]
theorem get_map{n:Nat}{g:Nat->Nat}(h:i<n):((List.range' 0 n).map g).getD i 0=g i:=by
 rw[qai,qac (by simpa using h)];simp
variable{g:Fc}
theorem zpq(hf:FcOk f)(hg:FcOk g)(hc:zck (iL (ucs f g))=true)(hs:Fit (zsA f g) s):(zsA f g).val s=f.val s * g.val s:=by
 have hD:=zpK hc;have hb:zcK (ucs f g) ((uni f g).map s):=zj5 hD.len hD.nodup hD.zaC hs;have hlt:=zj8 hb;show((List.range' 0 (zab (ucs f g))).map λj=>f.at (uni f g) (dig (ucs f g) j)* g.at (uni f g) (dig (ucs f g) j)).getD (dot ((uni f g).map s) (zaB (ucs f g))) 0=_;rw[get_map hlt,zmx hb,zyF,zyF];rw[val_congr (f:=f) (t:=s) λv hv=>zhh ((zel hf hg).2 (.inl hv)),val_congr (f:=g) (t:=s) λv hv=>zhh ((zel hf hg).2 (.inr hv))]
def big(b:Bool)(xs:List Nat):Nat:=xs.foldr (gop b) 0
theorem zvR(b:Bool)(x y z:Nat):gop b (gop b x y) z=gop b x (gop b y z):=by
 cases b
 .exact qbw x y z
 exact Nat.max_assoc x y z
theorem zxF(b:Bool)(x y:Nat):gop b x y=gop b y x:=by
 cases b
 .exact qb0 x y
 exact Nat.max_comm x y
theorem zqN(b:Bool)(x:Nat):gop b x 0=x:=by
 cases b
 .rfl
 exact Nat.max_zero x
theorem zwg(b:Bool)(x:Nat):gop b 0 x=x:=by rw[zxF,zqN]
theorem zlS(b:Bool)(x:Nat)(xs:List Nat):big b (x :: xs)=gop b x (big b xs):=rfl
theorem zxW{b:Bool}{M:Nat}:∀ {xs:List Nat},(∀ x∈xs,x<=M)->big b xs<=xs.length * M
 | [],_=>by simp[big]
 | x :: xs,h=>by
  have h1:=h x qam;have h2:=zxW (b:=b) λy hy=>h y (qag x hy)
  rw[zlS,qay,qaM,qbh];cases b
  .show x+big false xs<=_; omega
  show max x (big true xs)<=_; omega
def fib(f:Fc)(us:List Nat)(m i j:Nat):List Nat:=((List.range' i m).filter λi=>ix f us i == j).map f.get
theorem zxw(f:Fc)(us:List Nat)(m i j:Nat):fib f us (m+1) i j=bif ix f us i == j then f.get i :: fib f us m (i+1) j else fib f us m (i+1) j:=by
 unfold fib;rw[qca];cases hb:(ix f us i == j)with
 | true=>rw[qbj (p:=λi=>ix f us i == j) hb,qaH,qdw]
 | false=>rw[qbi (p:=λi=>ix f us i == j) (by rw[hb]; decide),qdx]
theorem zkC{b:Bool}{f:Fc}{us:List Nat}{M:Nat}(hM:∀ i,f.get i<=M):∀ {m i K:Nat} {l:List Nat},(∀ j,l.getD j 0<=K)->K+m * M<=zc2->(∀ k,i<=k->k<i+m->ix f us k<l.length)->
  ∃ l',zjk b f us m i l=some l'/\l'.length=l.length/\∀ j,j<l.length->l'.getD j 0=gop b (l.getD j 0) (big b (fib f us m i j))
 | 0,i,K,l,_,_,_=>⟨l,rfl,rfl,λj _=>by
   rw[show fib f us 0 i j=[]from rfl]
   exact(zqN b _).symm⟩
 | m+1,i,K,l,hl,hK,hx=>by
  have hi:=hx i (qao _) (by omega);have h1:=hl (ix f us i);have h2:=hM i;rw[qaM,qbh]at hK;have h3:gop b (l.getD (ix f us i) 0) (f.get i)<=K+M:=by
   cases b
   .show _+_<=_; omega
   show max _ _<=_; omega
  have hset:∀ j,(l.set (ix f us i) (gop b (l.getD (ix f us i) 0) (f.get i))).getD j 0=bif ix f us i == j then gop b (l.getD (ix f us i) 0) (f.get i)else l.getD j 0:=by
   intro j;by_cases e:ix f us i=j
   .subst e;rw[qdB,qdw,qai,qaG hi];rfl
   rw[qdC e,qdx,qai,qap e,<- qai]
  obtain⟨l',g1,g2,g3⟩:=zkC (b:=b) (us:=us) hM (m:=m) (i:=i+1) (K:=K+M) (l:=l.set (ix f us i) (gop b (l.getD (ix f us i) 0) (f.get i))) (λj=>by
   rw[hset];cases(ix f us i == j)
   .rw[qdx]; have:=hl j; omega
   rw[qdw]; exact h3) (by omega) (λk a c=>by rw[qaQ]; exact hx k (by omega) (by omega))
  refine⟨l',?_,by rw[g2,qaQ],λj hj=>?_⟩
  .unfold zjk;rw[qdz (show gop b (l.getD (ix f us i) 0) (f.get i)<=zc2 by omega),qdw];exact g1
  rw[g3 j (by rw[qaQ]; exact hj),hset,zxw];cases hb:(ix f us i == j)with
  | false=>rw[qdx,qdx]
  | true=>
   rw[qdw,qdw,zlS,zvR,beq_iff_eq.1 hb]
variable{M:Nat}
theorem zqR(b:Bool)(hf:FcOk f){us:List Nat}(hs:Sel f us)(hM:∀ i,f.get i<=M)(hB:zab f.cs * M<=zc2):
  gat b f us=some ((List.range' 0 (zab (cof f us))).map λj=>big b (fib f us (zab f.cs) 0 j)):=by
 obtain⟨l',g1,g2,g3⟩:=zkC (b:=b) (us:=us) hM (m:=zab f.cs) (i:=0) (K:=0) (l:=List.replicate (zab (cof f us)) 0) (λj=>by
  rw[qai,qcB]
  split<;>exact qao _) (by omega) (λk _ hk=>by rw[qb7]; exact zCi hf hs (by omega))
 unfold gat;rw[g1];refine congrArg some (qcm (by rw[g2]; simp) λj a c=>?_);have hj:j<zab (cof f us):=by simpa using c
 have e:=g3 j (by simpa using hj);rw[qai,qac a,qai,qcB,if_pos hj]at e;simp only[qbB]at e;rw[zwg]at e;rw[e];simp
def upd(s:Nat->Nat)(v p:Nat)(u:Nat):Nat:=bif u == v then p else s u
theorem zeX(s:Nat->Nat)(v p:Nat):upd s v p v=p:=by unfold upd; rw[qdB,qdw]
variable{v p:Nat}
theorem zgI{u:Nat}(h:u≠v):upd s v p u=s u:=by unfold upd; rw[qdC h,qdx]
theorem zzZ{u:Nat}(h:u∈rest f v):u≠v:=by
 have:=(qaJ.1 h).2;intro e;rw[e,qdB]at this;cases this
variable{k:Nat}
theorem zmC(hf:FcOk f)(hv:pos f.vs v=some k)(s:Nat->Nat)(p:Nat):(f.vs.map (upd s v p)).eraseIdx k=(rest f v).map s:=by
 rw[<- zh2,<- zmz hf hv];exact qbs λu hu=>zgI (zzZ hu)
theorem zmZ{cs:List Nat}(hc:∀ c∈cs,1<=c/\c<=8)(h:i<zab (cs.eraseIdx k)):dot (dig (cs.eraseIdx k) i) (zaB (cs.eraseIdx k))=i:=zih (zff hc k) h
theorem zs1{cs ds:List Nat}(hc:∀ c∈cs,1<=c/\c<=8)(hk:k<cs.length)(hp:p<cs[k])(hb:zcK cs ds)(hd:ds.getD k 0=p):ziy cs k p (dot (ds.eraseIdx k) (zaB (cs.eraseIdx k)))=dot ds (zaB cs)/\dot (ds.eraseIdx k) (zaB (cs.eraseIdx k))<zab (cs.eraseIdx k):=by
 have hlt:=zj8 hb;have hdig:=zmx hb;obtain⟨j,h1,h2⟩:=zrt hc hk hlt (p:=p) (by rw[hdig]; exact hd);have h3:=(zmL hc hk hp h1).2;rw[h2,hdig]at h3;rw[h3,zmZ hc h1];exact⟨h2,h1⟩
theorem zxM(hv:pos f.vs v=some k)(s:Nat->Nat)(p:Nat):(f.vs.map (upd s v p)).getD k 0=p:=by
 obtain⟨hk,e⟩:=zdb hv;rw[qai,qac (by simpa using hk)];simp only[qdl,e,zeX,qbB]
theorem zpx(hf:FcOk f)(hv:pos f.vs v=some k)(hk:k<f.cs.length):at_ f.vs f.cs v=f.cs[k]:=by
 rw[zqI hv,qai,qac hk];rfl
theorem zzN{f:Fc}(hf:FcOk f){v:Nat}(hv:pos f.vs v=some k)(hk:k<f.cs.length)(hp:p<f.cs[k])(hs:∀ u∈rest f v,s u<at_ f.vs f.cs u):Fit f (upd s v p):=by
 intro u hu;by_cases e:u=v
 .subst e;rw[zeX,zpx hf hv hk];exact hp
 rw[zgI e];exact hs u (qaJ.2 ⟨hu,by rw[qdC e]; rfl⟩)
theorem zkQ:∀ {cs:List Nat} {k p q i:Nat},(∀ c∈cs,1<=c/\c<=8)->k<cs.length->p<q->ziy cs k p i<ziy cs k q i
 | [],k,_,_,_,_,hk,_=>by simp at hk
 | c :: cs,0,p,q,i,hc,_,h=>by
  have hp:0<zab cs:=zb8 λd hd=>hc d (qag c hd)
  have:=Nat.mul_lt_mul_of_pos_right h hp;show p * zab cs+i<q * zab cs+i;omega
 | c :: cs,k+1,p,q,i,hc,hk,h=>by
  have:=zkQ (i:=i % zab (cs.eraseIdx k)) (λd hd=>hc d (qag c hd)) (show k<cs.length by simpa using hk) h;show i / zab (cs.eraseIdx k)* zab cs+ziy cs k p (i % zab (cs.eraseIdx k))<i / zab (cs.eraseIdx k)* zab cs+ziy cs k q (i % zab (cs.eraseIdx k));omega
theorem ztf(hf:FcOk f)(hv:pos f.vs v=some k):ix f (rest f v) i=dot ((dig f.cs i).eraseIdx k) (zaB (f.cs.eraseIdx k)):=by
 unfold ix;rw[zgr hf hv,zmz hf hv,zh2,zoq (za5 hf.inc) (by rw[zfC,hf.len])]
theorem zrn(hf:FcOk f)(hv:pos f.vs v=some k)(hk:k<f.cs.length){j:Nat}(hj:j<zab (f.cs.eraseIdx k)):fib f (rest f v) (zab f.cs) 0 j=(List.range' 0 f.cs[k]).map λp=>f.get (ziy f.cs k p j):=by
 have e:((List.range' 0 (zab f.cs)).filter λi=>ix f (rest f v) i == j)=(List.range' 0 f.cs[k]).map λp=>ziy f.cs k p j:=by
  refine zh8 (qbl _ qc6) (qdb.2 (List.Pairwise.imp (λh=>zkQ hf.zaC hk h) qc6)) λx=>?_
  simp only[qaJ,qcP,qaE,qdA];constructor
  .rintro⟨⟨_,h1⟩,h2⟩;have hx:x<zab f.cs:=by omega
   have hb:=zfc hf.zaC hx;have hp:(dig f.cs x).getD k 0<f.cs[k]:=by
    have hkd:k<(dig f.cs x).length:=by rw[zfC]; exact hk
    have hm:f.vs[k]'(by rw[hf.len]; exact hk)∈f.vs:=qau _;have h3:=(zma hf.len hb hm).1;rw[znf (za5 hf.inc) (by rw[hf.len]; exact hk),znf (za5 hf.inc) (by rw[hf.len]; exact hk)]at h3
    rwa [qai (l:=f.cs),qac hk]at h3
   refine⟨(dig f.cs x).getD k 0,⟨qaz _,by omega⟩,?_⟩;obtain⟨h3,_⟩:=zs1 hf.zaC hk hp hb rfl;rw[ztf hf hv]at h2;rw[h2,zih hf.zaC hx]at h3;exact h3
  rintro⟨p,⟨_,h1⟩,rfl⟩;have hp:p<f.cs[k]:=by omega
  refine⟨⟨qaz _,by have:=zl6 hf.zaC hk hp hj; omega⟩,?_⟩;rw[ztf hf hv,(zmL hf.zaC hk hp hj).2,zmZ hf.zaC hj]
 unfold fib;rw[e,qde];rfl
theorem zzf(b:Bool){f:Fc}(hf:FcOk f){v:Nat}(hv:pos f.vs v=some k)(hk:k<f.cs.length){l:List Nat}(hM:∀ i,f.get i<=M)(hB:zab f.cs * M<=zc2)(hg:gat b f (rest f v)=some l)(hs:∀ u∈rest f v,s u<at_ f.vs f.cs u):
  (gF f (rest f v) l).val s=big b ((List.range' 0 f.cs[k]).map λp=>f.val (upd s v p)):=by
 have h0:=zqR b hf (zhI hf v) hM hB;rw[hg,zgr hf hv]at h0;have hl:=qaj h0;have hc0:0<f.cs[k]:=(hf.zaC _ (qau hk)).1;have key:∀ p,p<f.cs[k]->ziy f.cs k p (dot ((rest f v).map s) (zaB (f.cs.eraseIdx k)))=dot (f.vs.map (upd s v p)) (zaB f.cs)/\dot ((rest f v).map s) (zaB (f.cs.eraseIdx k))<zab (f.cs.eraseIdx k):=by
  intro p hp;have h:=zs1 hf.zaC hk hp ((zzN hf hv hk hp hs).below hf) (zxM hv s p);rw[zmC hf hv]at h;exact h
 have hj:=(key 0 hc0).2;show l.getD (dot ((rest f v).map s) (zaB (cof f (rest f v)))) 0=_;rw[zgr hf hv,hl,get_map hj,zrn hf hv hk hj];congr 1
 refine qbs λp hp=>?_
 have:=qcP.1 hp;rw[(key p (by omega)).1];rfl
structure Std (f:Fc) (M:Nat):Prop where
 ok:FcOk f
 cs:f.cs=f.vs.map zku
 var:∀ v∈f.vs,v<5
 le:∀ i,f.get i<=M
theorem zw3:∀ v,v<5->1<=zku v/\zku v<=8:=by decide
theorem zwr:[0,1,2,3,4].Pairwise (· < ·):=by decide
theorem zwR(h:v<5):v∈[0,1,2,3,4]:=by
 have:∀ v,v<5->v∈[0,1,2,3,4]:=by decide
 exact this v h
theorem zvG{vs:List Nat}(hi:vs.Pairwise (· < ·))(hv:∀ v∈vs,v<5):zab (vs.map zku)<=24/\vs.length<=5:=by
 have hs:=zj4 hi zwr λv h=>zwR (hv v h)
 refine⟨?_,hs.length_le⟩;have:=ziU (hs.map zku) (by decide);exact this
theorem ztM{vs:List Nat}(hv:∀ v∈vs,v<5):∀ c∈vs.map zku,1<=c/\c<=8:=by
 intro c hc;obtain⟨v,h,rfl⟩:=qaE.1 hc;exact zw3 v (hv v h)
theorem zsp{vs:List Nat}(hi:vs.Pairwise (· < ·))(hv:∀ v∈vs,v<5):zck (iL (vs.map zku))=true:=by
 obtain⟨h1,h2⟩:=zvG hi hv;unfold zck;rw[zal,qar,qdz (by omega),qbG];exact zhb (ztM hv) (by omega)
theorem Std.at(h:Std f M)(hv:v∈f.vs):at_ f.vs f.cs v=zku v:=by rw[h.cs,zhh hv]
variable{N:Nat}
theorem Std.mono(h:Std f M)(hl:M<=N):Std f N:=⟨h.ok,h.cs,h.var,λi=>qan (h.le i) hl⟩
theorem Std.agr(hf:Std f M)(hg:Std g N):Agr f g:=λv h1 h2=>by rw[hf.at h1,hg.at h2]
theorem Std.zaC(h:Std f M)(hv:pos f.vs v=some k)(hk:k<f.cs.length):f.cs[k]=zku v:=by
 obtain⟨h1,e⟩:=zdb hv;rw[<- zpx h.ok hv hk,h.at (e ▸ qau h1)]
theorem Std.ucs(hf:Std f M)(hg:Std g N):ucs f g=(uni f g).map zku:=by
 refine qbs λv hv=>?_
 rcases(zel hf.ok hg.ok).1 hv with h | h
 .rw[zD1 h,hf.at h]
 rw[zEH (hf.agr hg) h,hg.at h]
theorem Std.uv{f g:Fc}(hf:Std f M)(hg:Std g N):∀ v∈uni f g,v<5:=λv hv=>((zel hf.ok hg.ok).1 hv).elim (hf.var v) (hg.var v)
theorem Std.zae(hf:Std f M)(hg:Std g N):zck (iL (Go.Dc.ucs f g))=true:=by
 rw[hf.ucs hg];exact zsp (zik f g) (hf.uv hg)
theorem zgs{l:List Nat}(h:∀ x∈l,x<=M)(k:Nat):l.getD k 0<=M:=by
 by_cases hk:k<l.length
 .rw[qai,qac hk];exact h _ (qau hk)
 rw[qai,qaW (by omega)];exact qaz _
end Go.Dc
namespace Go.Dc
open Go Go.Mx Go.Lx
def zb4(g:Nat)(ns:List NN):S_api_Net:=⟨(g:Int),ns.map nd⟩
theorem zvK{g P:Nat}{ns:List NN}(hn:ns.length<=8)(hc:∀ x∈ns,1<=x.c/\x.c<=4)(hP:P<=65536):∀(n:Nat) (xs ys:List NN) (a:Nat),xs ++ ys=ns->a * zab (ys.map (·.c))=P->ys.length<n ->
  zdh (zb4 g ns) n (a:Int) (xs.length:Int) (iL (xs.map (·.c)++ List.replicate ys.length 0))=some (.go ((P:Int),iL (ns.map (·.c))))
 | 0,_,_,_,_,_,h=>absurd h (qat _)
 | n+1,xs,[],a,h1,h2,h3=>by
  unfold zdh;rw[qaZ]at h1;subst h1;have:a=P:=by rw[<- h2]; simp[zab]
  subst this;rw[show(zb4 g xs).nodes.length=xs.length by simp[zb4],zaH,qdy (by omega),qdx];simp
 | n+1,xs,y :: ys,a,h1,h2,h3=>by
  unfold zdh;have hl:(zb4 g ns).nodes.length=ns.length:=by simp[zb4]
  have hxn:xs.length<ns.length:=by rw[<- h1]; simp
  have hy:ns[xs.length]=y:=by subst h1; simp
  have hyc:=hc y (by rw[<- h1]; simp);have e2:a * y.c * zab (ys.map (·.c))=P:=by rw[<- h2]; exact qa6 _ _ _
  have hq:1<=zab (ys.map (·.c)):=zcQ λc hcm=>by
   obtain⟨z,hz,rfl⟩:=qaE.1 hcm;exact(hc z (by rw[<- h1]; simp[hz])).1
  have hle:a * y.c<=P:=by rw[<- e2]; exact qaO _ hq
  have ih:=zvK hn hc hP (g:=g) n (xs ++ [y]) ys (a * y.c) (by rw[<- h1]; simp) e2 (by simp at h3; omega)
  rw[hl,zaH,qdz hxn,qdw,show zaO (zb4 g ns).nodes (xs.length:Int)=some (nd y) by rw[<- hy]; exact zcO hxn,qaa,
   show(nd y).zaC=(y.c:Int)from rfl,show decide ((y.c:Int)<1)=false from qdy (by omega),qdx,qaa,show decide ((4:Int)<(y.c:Int))=false from qdy (by omega),qdx]
  have hxl:((xs.length:Nat):Int)=(((xs.map (·.c)).length:Nat):Int):=by simp
  rw[qay,qa1,hxl,zer,qaa,zi0,qaa,<- qaU,zas (by omega),zak (by simp; omega),<- ih];simp
theorem zt3{g v:Nat}{ns:List NN}{x:S_api_Node}{ps xs ys:List Nat}(hx:x.parents=iL ps)(hn:ns.length<=8)(hv:xs.length=v)(hp:∀ p∈ps,p<ns.length/\p≠v)(hinc:ps.Pairwise (· < ·)):∀(n i:Nat) (m:Nat) (lo:Int),i<=ps.length->m<18446744073709551616 ->
  (∀ p∈ps.drop i,lo<(p:Int))->ps.length - i<n ->
  zdU x (zb4 g ns) (v:Int) n lo (i:Int) (iL (xs ++ m :: ys))=some (.go (iL (xs ++ ((ps.drop i).foldl (λm p=>m ||| 2 ^ p) m):: ys)))
 | 0,_,_,_,_,_,_,h=>absurd h (qat _)
 | n+1,i,m,lo,h1,h2,h4,h3=>by
  have hps:ps.length<=9223372036854775806\/True:=.inr trivial;unfold zdU;have hl:(zb4 g ns).nodes.length=ns.length:=by simp[zb4]
  rw[hx,zal,hl];by_cases hi:i<ps.length
  .have hd:ps.drop i=ps[i]:: ps.drop (i+1):=qaA hi;obtain⟨hp1,hp2⟩:=hp _ (qau hi);have hlo:=h4 ps[i] (by rw[hd]; exact qam);have hsm:i<=ps[i]:=by
    have:∀(j:Nat) (hj:j<ps.length),j<=ps[j]:=by
     intro j;induction j with
     | zero=>intro hj; exact qaz _
     | succ j ih=>
      intro hj;have h6:=ih (by omega);have h7:=qbo.1 hinc j (j+1) (by omega) hj (by omega);omega
    exact this i hi
   have hgt:∀ p∈ps.drop (i+1),((ps[i]:Nat):Int)<(p:Int):=by
    intro p hp;obtain⟨k,hk,rfl⟩:=qcV.1 hp;rw[List.getElem_drop];have:=qbo.1 hinc i (i+1+k) hi (by simp at hk; omega) (by omega);omega
   have hpw:2 ^ ps[i]<18446744073709551616:=qbX (n:=64) (by decide) (by omega);have hm:m ||| 2 ^ ps[i]<18446744073709551616:=qdc (n:=64) h2 hpw;have ih:=zt3 (g:=g) (ys:=ys) hx hn hv hp hinc n (i+1) (m ||| 2 ^ ps[i]) (ps[i]:Int) hi hm hgt (by omega)
   rw[zaH,qdz hi,qdw,zbf hi,qaa,show decide (((ps[i]:Nat):Int)<=lo)=false from qdy (by omega),qdx,
    show decide (((ns.length:Nat):Int)<=((ps[i]:Nat):Int))=false from qdy (by omega),qdx,qaa,show(((ps[i]:Nat):Int)==(v:Int))=false by simp; omega,qdx,
    <- hv,zer,qaa,zC9 (by omega),qaa,orU h2 hpw,zi0,qaa,zak (by omega),hv,ih,hd,qc1]
  rw[zaH,qdy hi,qdx,qbb (by omega)];rfl
structure RightN (g:Nat) (ns:List NN):Prop where
 g1:1<=g
 g2:g<=60
 n1:1<=ns.length
 n2:ns.length<=8
 zaC:∀ x∈ns,1<=x.c/\x.c<=4
 prod:zab (ns.map (·.c))<=1024
 inc:∀ x∈ns,x.ps.Pairwise (· < ·)
 lt:∀ x∈ns,∀ p∈x.ps,p<ns.length
 rows:∀ x∈ns,RowsOk g x.c (zab (x.ps.map λp=>(ns.map (·.c)).getD p 0)) x.rows
 rk:∃ rk:Nat->Nat,(∀ v,rk v<=8)/\∀ v x,ns[v]? = some x->∀ p∈x.ps,rk p<rk v
theorem zl2{n:Nat}{ps:List Nat}(h:ps.Pairwise (· < ·))(hp:∀ p∈ps,p<n):ps.length<=n:=by
 have:∀(j:Nat) (hj:j<ps.length),j<=ps[j]:=by
  intro j;induction j with
  | zero=>intro hj; exact qaz _
  | succ j ih=>
   intro hj;have h6:=ih (by omega);have h7:=qbo.1 h j (j+1) (by omega) hj (by omega);omega
 cases hl:ps.length with
 | zero=>exact qaz _
 | succ m=>
  have h1:=this m (by omega);have h2:=hp _ (qau (show m<ps.length by omega));omega
variable{g:Nat}{ns:List NN}
theorem RightN.zET(h:RightN g ns){x:NN}(hx:x∈ns):x.ps.length<=8:=by
 have:=zl2 (h.inc x hx) (h.lt x hx);have:=h.n2;omega
variable{v:Nat}
theorem RightN.ne(h:RightN g ns){x:NN}(hx:ns[v]? = some x):∀ p∈x.ps,p≠v:=by
 obtain⟨rk,_,h2⟩:=h.rk;intro p hp he;subst he;exact qb3 _ (h2 p x hx p hp)
theorem RightN.zCI(h:RightN g ns){x:NN}(hx:x∈ns):∀ p∈x.ps,1<=(ns.map (·.c)).getD p 0/\(ns.map (·.c)).getD p 0<=4:=by
 intro p hp;have hp1:=h.lt x hx p hp;have:=h.zaC ns[p] (qau hp1);simpa [hp1]using this
theorem RightN.zDK(h:RightN g ns){x:NN}(hx:x∈ns):zab (x.ps.map λp=>(ns.map (·.c)).getD p 0)<=65536:=by
 refine qan (zlD (m:=4) (by omega) λy hy=>?_) ?_
 .obtain⟨p,hp,rfl⟩:=qaE.1 hy;exact(h.zCI hx p hp).2
 rw[qar];exact qan (qbQ (by decide) (h.zET hx)) (by decide)
theorem zua{g:Nat}{ns:List NN}(h:RightN g ns):∀(n:Nat) (xs ys:List NN),xs ++ ys=ns->ys.length<n ->
  zdf (zb4 g ns) (iL (ns.map (·.c))) n (xs.length:Int) (iL (xs.map (λx=>zeL x.ps)++ List.replicate ys.length 0))=some (.go (iL (ns.map λx=>zeL x.ps)))
 | 0,_,_,_,h=>absurd h (qat _)
 | n+1,xs,[],h1,h3=>by
  unfold zdf;rw[qaZ]at h1;subst h1;rw[show(zb4 g xs).nodes.length=xs.length by simp[zb4],zaH,qdy (by omega),qdx];simp
 | n+1,xs,y :: ys,h1,h3=>by
  unfold zdf;have hl:(zb4 g ns).nodes.length=ns.length:=by simp[zb4]
  have hxn:xs.length<ns.length:=by rw[<- h1]; simp
  have hn:=h.n2;have hy:ns[xs.length]=y:=by subst h1; simp
  have hyg:ns[xs.length]? = some y:=by rw[qac hxn,hy]
  have hym:y∈ns:=qaD hyg;have hcl:(ns.map (·.c)).length=ns.length:=by simp
  have hlt:∀ p∈y.ps,p<ns.length/\p≠xs.length:=λp hp=>⟨h.lt y hym p hp,h.ne hyg p hp⟩
  have hcs:=h.zCI hym;have hpl:=h.zET hym;have hprod:=h.zDK hym;have hyc:=h.zaC y (by rw[<- h1]; simp);have ih:=zua h n (xs ++ [y]) ys (by rw[<- h1]; simp) (by simp at h3; omega);have e3:=zt3 (g:=g) (ns:=ns) (x:=nd y) (xs:=xs.map λx=>zeL x.ps) (ys:=List.replicate ys.length 0) (v:=xs.length) rfl hn (by simp) hlt (h.inc y hym) (y.ps.length+2) 0 0 (-1) (qaz _) (by decide) (λp hp=>by omega) (by omega);rw[show((0:Nat):Int)=0 from rfl,qbm]at e3;have e4:=zto (g:=g) (cs:=ns.map (·.c)) (nodes:=ns.map nd) (sets:=iL (xs.map (λx=>zeL x.ps)++ zeL y.ps :: List.replicate ys.length 0)) (order:=[]) (x:=y) h.g2 (by rw[hcl]; exact λp hp=>(hlt p hp).1) (by omega) (λp hp=>(hcs p hp).1) (by omega) hprod (h.rows y hym)
  rw[hl,zaH,qdz hxn,qdw,show zaO (zb4 g ns).nodes (xs.length:Int)=some (nd y) by rw[<- hy]; exact zcO hxn,qaa,qay,qa1,
   show(nd y).parents.length=y.ps.length by simp[nd,zal],zaI,e3,qaa]
  simp only[];rw[show(y.ps.foldl (λm p=>m ||| 2 ^ p) 0)=zeL y.ps from rfl];rw[show zb4 g ns=⟨(g:Int),ns.map nd⟩from rfl]at ih ⊢;rw[e4,qaa,qdw,zak (by omega),<- ih];simp
def zm8(ms:List Nat)(mask v:Nat):Prop:=mask.testBit v=false/\Sub (ms.getD v 0) mask
structure First (ms:List Nat) (mask v:Nat):Prop where
 lt:v<ms.length
 ready:zm8 ms mask v
 least:∀ u,u<v->¬ zm8 ms mask u
def zhN(ms os:List Nat):Prop:=∀ k v,os[k]? = some v->First ms (zeL (os.take k)) v
variable{os:List Nat}
theorem zhN.app{ms:List Nat}(h:zhN ms os)(hv:First ms (zeL os) v):zhN ms (os ++ [v]):=by
 intro k u hk;by_cases hl:k<os.length
 .rw[qak hl]at hk;rw[qcD (by omega)];exact h k u hk
 have hk2:k=os.length:=by
  have:=(qab.1 hk).1;simp at this;omega
 subst hk2;have hu:u=v:=by simpa using hk.symm
 subst hu;simpa using hv
theorem zhN.lt{ms os:List Nat}(h:zhN ms os):∀ x∈os,x<ms.length:=by
 intro x hx;obtain⟨k,hk⟩:=qbP hx;exact(h k x hk).lt
theorem zx7:∀ {xs ys:List Nat},xs.Nodup->(∀ x∈xs,x∈ys)->xs.length<=ys.length
 | [],_,_,_=>qaz _
 | x :: xs,ys,h,hs=>by
  obtain⟨h1,h2⟩:=qa7.1 h;have hx:=hs x qam;have ih:=zx7 (xs:=xs) (ys:=ys.erase x) h2 λy hy=>(List.mem_erase_of_ne (λq:y=x=>h1 (by rw[<- q]; exact hy))).2 (hs y (qag _ hy))
  rw[List.length_erase_of_mem hx]at ih;have:=List.length_pos_of_mem hx;simp only[qay];omega
theorem zxc{ms:List Nat}{mask:Nat}:∀ v,v<ms.length->zm8 ms mask v->∃ u,First ms mask u:=by
 intro v;induction v using Nat.strongRecOn with
 | ind v ih=>
  intro hv hr;by_cases h:∃ u,u<v/\zm8 ms mask u
  .obtain⟨u,hu,hur⟩:=h;exact ih u hu (by omega) hur
  exact⟨v,hv,hr,λu hu hur=>h ⟨u,hu,hur⟩⟩
def zca(ns:List NN):List Nat:=ns.map λx=>zeL x.ps
theorem RightN.zmN{g:Nat}{ns:List NN}(h:RightN g ns):∀ m∈zca ns,m<18446744073709551616:=by
 intro m hm;obtain⟨x,hx,rfl⟩:=qaE.1 hm;refine Go.Dc.zmN λp hp=>?_
 have:=h.lt x hx p hp;have:=h.n2;omega
theorem RightN.ready(h:RightN g ns)(os:List Nat){rk:Nat->Nat}(hrk:∀ v x,ns[v]? = some x->∀ p∈x.ps,rk p<rk v):∀(j v:Nat),rk v=j->v<ns.length->v ∉ os->∃ u,u<ns.length/\zm8 (zca ns) (zeL os) u:=by
 intro j;induction j using Nat.strongRecOn with
 | ind j ih=>
  intro v hj hvl hv;by_cases hp:∃ p,p∈ns[v].ps/\p ∉ os
  .obtain⟨p,hp1,hp2⟩:=hp;have:=hrk v _ (qac hvl) p hp1;exact ih (rk p) (by omega) p rfl (h.lt _ (qau hvl) p hp1) hp2
  refine⟨v,hvl,by rw[zmP]; simp[hv],λi hi=>?_⟩;rw[show(zca ns).getD v 0=zeL ns[v].ps by simp[zca,hvl],zmP]at hi;rw[zmP];have hi2:=of_decide_eq_true hi;refine qdz ?_;exact qcW λhno=>hp ⟨i,hi2,hno⟩
theorem RightN.next(h:RightN g ns)(hl:os.length<ns.length):∃ v,First (zca ns) (zeL os) v:=by
 obtain⟨rk,_,hrk⟩:=h.rk;by_cases hs:∀ x∈List.range ns.length,x∈os
 .have:=zx7 qcX hs;rw[qcR]at this;omega
 have:∃ x,x∈List.range ns.length/\x ∉ os:=qcW λhno=>hs λx hx=>qcW λhx2=>hno ⟨x,hx,hx2⟩
 obtain⟨x,hx,hxo⟩:=this;obtain⟨u,hu,hr⟩:=h.ready os hrk _ x rfl (qbn.1 hx) hxo;exact zxc u (by simpa [zca]using hu) hr
variable{i:Nat}
theorem zv6{ms:List Nat}{mask:Nat}{β:Type}(hm:∀ m∈ms,m<18446744073709551616)(hk:mask<18446744073709551616)(hi:i<ms.length)(h64:i<64)(l:β):
  ∃ b:Bool,(b=true↔zm8 ms mask i)/\((zki .u64 (mask:Int) (i:Int)).bind λq7=>bif ((zkX .u64 q7 1)== 0)then some (((zDw .u64 ((ms[i]:Nat):Int) (mask:Int))== 0),l)else some (false,l))=some (b,l)/\
   ((zki .u64 (mask:Int) (i:Int)).bind λq7=>bif ((zkX .u64 q7 1)== 0)then some ((zDw .u64 ((ms[i]:Nat):Int) (mask:Int))== 0)else some false)=some b:=by
 obtain⟨q,h1,h2⟩:=zEx (a:=mask) (v:=i) hk h64;have hmi:=hm _ (qau hi);have hg:ms.getD i 0=ms[i]:=by simp[hi]
 simp only[h1,qaa,h2,zFW];cases hb:mask.testBit i with
 | true=>exact⟨false,by simp[zm8,hb],rfl,rfl⟩
 | false=>
  refine⟨(((diff ms[i] mask:Nat):Int)== 0),?_,rfl,rfl⟩;rw[zm8,hb,hg,<- zvQ hmi hk];simp
theorem znA{ms os:List Nat}{mask C v:Nat}(hn:ms.length<=8)(hm:∀ m∈ms,m<18446744073709551616)(hk:mask<18446744073709551616)(hC:os.length+1<=C)(hv:First ms mask v):∀(n i:Nat),i<=v->v - i<n ->
  zcV (iL ms) (mask:Int) C n (i:Int) (iL os)=some (.brk (((mask ||| 2 ^ v:Nat):Int),iL (os ++ [v])))
 | 0,_,_,h=>absurd h (qat _)
 | n+1,i,h1,h3=>by
  unfold zcV;have hvl:=hv.lt;have hi:i<ms.length:=by omega
  obtain⟨b,hb,e,_⟩:=zv6 hm hk hi (by omega) (iL os);rw[zal,zaH,qdz hi,qdw,zbf hi,qaa,e,qaa];simp only[];by_cases hiv:i=v
  .subst hiv;have hpw:2 ^ i<18446744073709551616:=qbX (n:=64) (by decide) (by omega);rw[hb.2 hv.ready,qdw];unfold zpa;rw[if_pos (by simp[zal]; omega),qaa,zC9 (by omega),qaa,orU hk hpw];simp[iL]
  have:b=false:=by
   cases b with
   | false=>rfl
   | true=>exact absurd (hb.1 rfl) (hv.least i (by omega))
  rw[this,qdx,zak (by omega),znA hn hm hk hC hv n (i+1) (by omega) (by omega)]
theorem znF{g:Nat}{ns:List NN}(h:RightN g ns):∀(n:Nat) (os:List Nat),zhN (zca ns) os->os.length<=ns.length->ns.length - os.length<n ->
  ∃ os',zhN (zca ns) os'/\os'.length=ns.length/\zcT (iL (zca ns)) ns.length n ((zeL os:Nat):Int) (iL os)=some (.go (iL os'))
 | 0,_,_,_,h=>absurd h (qat _)
 | n+1,os,h1,h2,h3=>by
  unfold zcT;have hml:(zca ns).length=ns.length:=by simp[zca]
  have hn:=h.n2;rw[zal,zal,hml,zaH];by_cases hl:os.length<ns.length
  .obtain⟨v,hv⟩:=h.next hl;have hvl:=hv.lt;have hk:zeL os<18446744073709551616:=Go.Dc.zmN λx hx=>by
    have:=h1.lt x hx;omega
   have e:=znA (os:=os) (C:=ns.length) (by omega) h.zmN hk (by omega) hv (ns.length+2) 0 (qaz _) (by omega);rw[show((0:Nat):Int)=0 from rfl]at e;obtain⟨os',g1,g2,g3⟩:=znF h n (os ++ [v]) (h1.app hv) (by simp; omega) (by simp; omega);refine⟨os',g1,g2,?_⟩;rw[qdz hl,qdw,zaI,e,qaa];simp only[];rw[<- zxn,g3]
  exact⟨os,h1,by omega,by rw[qdy hl,qdx]⟩
theorem zsS(h:RightN g ns):
  ∃ os,zhN (zca ns) os/\os.length=ns.length/\zd3 (iL (zca ns))=some (iL os,true):=by
 have hml:(zca ns).length=ns.length:=by simp[zca]
 have hn:=h.n2;obtain⟨os,g1,g2,g3⟩:=znF h (ns.length+2) [] (λk v hk=>by simp at hk) (qaz _) (by simp);refine⟨os,g1,g2,?_⟩;unfold zd3;rw[zal,hml];have hcap:zA4 8 ((ns.length:Nat):Int)=some ns.length:=by
  unfold zA4;rw[if_pos ⟨qbL _,by simp only[zah]; omega⟩,qaL]
 rw[hcap,qaa,show(((ns.length:Nat):Int) - ((([]:List Int).length:Nat):Int)+2).toNat=ns.length+2 by simp; omega];rw[show((zeL []:Nat):Int)=0 from rfl,show iL []=[]from rfl]at g3;rw[g3,qaa]
theorem zpD(h:RightN g ns):
  ∃ os,zhN (zca ns) os/\os.length=ns.length/\zdJ (zb4 g ns)=some (⟨zb4 g ns,iL (ns.map (·.c)),iL (zca ns),iL os⟩,0):=by
 obtain⟨os,g1,g2,g3⟩:=zsS h;refine⟨os,g1,g2,?_⟩;have h1:=h.g1;have h2:=h.g2;have h3:=h.n1;have h4:=h.n2;have hl:(zb4 g ns).nodes.length=ns.length:=by simp[zb4]
 have hp:=h.prod;have e1:=zvK (g:=g) (P:=zab (ns.map (·.c))) h.n2 h.zaC (by omega) (ns.length+2) [] ns 1 rfl (qbh _) (by omega);have e2:=zua h (ns.length+2) [] ns rfl (by omega);simp only[qdt,qa4,qa3]at e1 e2;rw[show((0:Nat):Int)=0 from rfl]at e1 e2;rw[show((1:Nat):Int)=1 from rfl]at e1;have hz:List.replicate ns.length (0:Int)=iL (List.replicate ns.length 0):=by simp[iL]
 unfold zdJ
 rw[hl,show(zb4 g ns).grain=(g:Int)from rfl,show decide ((g:Int)<1)=false from qdy (by omega),qdx,show decide ((60:Int)<(g:Int))=false from qdy (by omega),qdx,
  show decide (((ns.length:Nat):Int)<1)=false from qdy (by omega),qdx,qaa,show decide ((8:Int)<((ns.length:Nat):Int))=false from qdy (by omega),qdx,
  zde (by omega),qaa,zaI,hz,e1,qaa]
 simp only[];rw[show decide ((1024:Int)<((zab (ns.map (·.c)):Nat):Int))=false from qdy (by omega),qdx,e2,qaa];simp only[];rw[show(ns.map λx=>zeL x.ps)=zca ns from rfl,g3,qaa];simp only[];rw[qdw]
inductive Reach (ms:List Nat):Nat->Nat->Prop
 | refl (i:Nat):Reach ms i i
 | step {s p i:Nat}:(ms.getD s 0).testBit p=true->Reach ms p i->Reach ms s i
variable{c:Nat}
theorem Reach.tr{ms:List Nat}{a b:Nat}(h1:Reach ms a b)(h2:Reach ms b c):Reach ms a c:=by
 induction h1 with
 | refl=>exact h2
 | step e _ ih=>exact .step e (ih h2)
def cnt(n s:Nat):Nat:=(List.range n).countP (s.testBit ·)
def zAh(m:Int):Int->List Int->Prop
 | _,[]=>True
 | lo,p :: r=>lo<p/\p<m/\zAh m p r
theorem zAh.of{m:Nat}:∀ {qs:List Nat} {lo:Int},qs.Pairwise (· < ·)->(∀ q∈qs,lo<(q:Int))->(∀ q∈qs,q<m)->zAh m lo (iL qs)
 | [],lo,_,_,_=>trivial
 | q :: r,lo,h,h1,h2=>by
  obtain⟨h3,h4⟩:=qbg.1 h;show lo<(q:Int)/\(q:Int)<(m:Int)/\zAh m (q:Int) (iL r);refine⟨h1 q qam,by have:=h2 q qam; omega,zAh.of h4 (λp hp=>by have:=h3 p hp; omega) λp hp=>h2 p (qag _ hp)⟩
structure BndX (k:Nat) (x:S_api_Node):Prop where
 par:x.parents.length<=k
 rows:x.rows.length<=k
 row:∀ r∈x.rows,r.length<=k
structure BndK (k:Nat) (d:S_api_Net):Prop where
 nodes:d.nodes.length<=k
 node:∀ x∈d.nodes,BndX k x
theorem BndX.mono{k m:Nat}{x:S_api_Node}(h:BndX k x)(hk:k<=m):BndX m x:=⟨qan h.par hk,qan h.rows hk,λr hr=>qan (h.row r hr) hk⟩
theorem BndK.mono{k m:Nat}{d:S_api_Net}(h:BndK k d)(hk:k<=m):BndK m d:=⟨qan h.nodes hk,λx hx=>(h.node x hx).mono hk⟩
theorem BndK.set{k t:Nat}{g:Int}{d:S_api_Net}{y:S_api_Node}(h:BndK k d)(hy:BndX k y):BndK k ⟨g,d.nodes.set t y⟩:=
 ⟨by simpa using h.nodes,λx hx=>by
  rcases qct hx with hx | hx
  .exact h.node x hx
  rw[hx]; exact hy⟩
theorem zfw(a b:List Nat):zab (a ++ b)=zab a * zab b:=by
 induction a with
 | nil=>simp[zab]
 | cons x a ih=>
  rw[qbk];show x * zab (a ++ b)=x * zab a * zab b;rw[ih,qa6]
theorem zp1:∀(a b:List Nat) (j:Nat),0<zab b->j<zab a * zab b->dig (a ++ b) j=dig a (j / zab b)++ dig b (j % zab b)
 | [],b,j,_,h=>by
  have h:j<zab b:=by simpa [zab]using h
  simp[dig,qbe h]
 | c :: a,b,j,hb,h=>by
  have ha:0<zab a:=by
   rcases qcJ (zab a)with h0 | h0
   .have:zab (c :: a)=c * zab a:=rfl;rw[this,h0]at h;simp at h
   exact h0
  rw[qbk];simp only[dig];rw[zp1 a b (j % zab (a ++ b)) hb (by rw[zfw]; exact qbp _ (qc0 ha hb)),zfw,qbk];have e1:j / (zab a * zab b)=j / zab b / zab a:=by rw[qc9,qaV]
  have e2:j % (zab a * zab b) / zab b=j / zab b % zab a:=by rw[qaV,Nat.mod_mul_right_div_self]
  have e3:j % (zab a * zab b) % zab b=j % zab b:=Nat.mod_mod_of_dvd _ ⟨zab a,qaV _ _⟩;rw[e1,e2,e3]
def zA3(B c:Nat)(rows:List (List Nat))(j:Nat):Nat:=(rows.getD (j / (c * B)* B+j % B) []).getD (j / B % c) 0
variable{B x:Nat}
theorem zva{j:Nat}(hB:0<B)(hx:x<c)(h:(j / (c * B)* B+j % B)* c+j / B % c=i * c+x):j=(i / B * c+x)* B+i % B:=by
 have hc:0<c:=by omega
 have h1:j / B % c=x:=by
  have:=congrArg (· % c) h;rw[qb0,qbF,Nat.mod_mod,qb0 (i * c),qbF,qbe hx]at this;exact this
 have h2:j / (c * B)* B+j % B=i:=by
  have:(j / (c * B)* B+j % B)* c=i * c:=by omega
  exact Nat.eq_of_mul_eq_mul_right hc this
 have h3:i / B=j / (c * B):=by
  rw[<- h2,qb0,qcs _ _ hB,qbZ (qbp _ hB),qaR]
 have h4:i % B=j % B:=by
  rw[<- h2,qb0,qbF,Nat.mod_mod]
 rw[h3,h4,<- h1];have e1:j / (c * B)=j / B / c:=by rw[qc9,qaV]
 rw[e1];have e2:=qb8 (j / B) c;have e3:=qb8 j B;rw[qaV c]at e2;rw[e2,qaV (j / B)];omega
variable{A:Nat}
theorem zCN(hi:i<A * B)(hx:x<c):(i / B * c+x)* B+i % B<A * c * B:=by
 have hB:0<B:=by
  rcases qcJ B with h | h
  .subst h; simp at hi
  exact h
 have h1:i / B<A:=qbR (by rw[qaV]; exact hi);have h2:i % B<B:=qbp _ hB;have h3:i / B * c+x<A * c:=by
  have:=qav c (show i / B+1<=A from h1);rw[qaM,qbh]at this;omega
 have h4:=qav B (show i / B * c+x+1<=A * c from h3);rw[qaM,qbh]at h4;omega
theorem zDg(hB:0<B)(hx:x<c):((i / B * c+x)* B+i % B) / (c * B)* B+((i / B * c+x)* B+i % B) % B=i/\((i / B * c+x)* B+i % B) / B % c=x:=by
 have h2:i % B<B:=qbp _ hB;have e1:((i / B * c+x)* B+i % B) / B=i / B * c+x:=by rw[qb0,qcs _ _ hB,qbZ h2,qaR]
 have e2:((i / B * c+x)* B+i % B) % B=i % B:=by rw[qb0,qbF,Nat.mod_mod]
 have e3:(i / B * c+x) / c=i / B:=by rw[qb0,qcs _ _ (by omega),qbZ hx,qaR]
 have e4:(i / B * c+x) % c=x:=by rw[qb0,qbF,qbe hx]
 refine⟨?_,by rw[e1,e4]⟩;rw[qaV c,<- qc9,e1,e3,e2,qaV];exact qb8 i B
structure Fil (A B c:Nat) (rows:List (List Nat)) (k:Nat) (w:List Nat):Prop where
 len:w.length=A * c * B
 at_:∀ j,j<A * c * B->(j / (c * B)* B+j % B)* c+j / B % c<k->w.getD j 0=zA3 B c rows j
variable{rows:List (List Nat)}{w:List Nat}
theorem Fil.step(h:Fil A B c rows (i * c+x) w)(hB:0<B)(hi:i<A * B)(hx:x<c):
  Fil A B c rows (i * c+(x+1)) (w.set ((i / B * c+x)* B+i % B) ((rows.getD i []).getD x 0)):=by
 have hlt:=zCN (A:=A) hi hx;refine⟨by rw[qaQ]; exact h.len,λj hj hk=>?_⟩;by_cases e:(i / B * c+x)* B+i % B=j
 .subst e;obtain⟨k1,k2⟩:=zDg (i:=i) hB hx;unfold zA3;rw[k1,k2,qai,qaG (by rw[h.len]; exact hlt),qbB]
 rw[qai,qap e,<- qai];refine h.at_ j hj ?_;rcases qaY ((j / (c * B)* B+j % B)* c+j / B % c) (i * c+x)with g | g
 .exact g
 exact absurd (zva hB hx (by omega)).symm e
theorem Fil.next(h:Fil A B c rows (i * c+c) w):Fil A B c rows ((i+1)* c+0) w:=by
 rw[qbz,qaM,qbh]; exact h
theorem Fil.start(A B c:Nat)(rows:List (List Nat)):Fil A B c rows (0 * c+0) (List.replicate (A * c * B) 0):=
 ⟨by simp,λj _ h=>absurd h (by omega)⟩
theorem Fil.all(h:Fil A B c rows (A * B * c+0) w)(hB:0<B)(hc:0<c):w=(List.range' 0 (A * c * B)).map (zA3 B c rows):=by
 apply qcm
 .simp[h.len]
 intro j h1 h2;have hj:j<A * c * B:=by rw[<- h.len]; exact h1
 have hk:(j / (c * B)* B+j % B)* c+j / B % c<A * B * c+0:=by
  have g1:j / (c * B)<A:=qbR (by rw[qaV (c * B),<- qa6]; exact hj);have g2:j % B<B:=qbp _ hB;have g3:j / B % c<c:=qbp _ hc;have g4:=qav B (show j / (c * B)+1<=A from g1);rw[qaM,qbh]at g4;have g5:=qav c (show j / (c * B)* B+j % B+1<=A * B by omega);rw[qaM,qbh]at g5;omega
 have:=h.at_ j hj hk;rw[qai,qac h1,qbB]at this;rw[this];simp
theorem Sub.tr{a b:Nat}(h1:Sub a b)(h2:Sub b c):Sub a c:=λi h=>h2 i (h1 i h)
theorem zD6(h:v<64):IntKind.u64.wrap (v:Int)=(v:Int):=zbS (by omega)
end Go.Dc
