/-
 Plain laws: a row of a table sums to the grain. Conditions: none.
-/
import Derived.Test.YtbjogdohfhdaiaaGreatESJ10
set_option linter.unusedSimpArgs false
set_option linter.unusedVariables false
namespace Go.Dc
open Go Go.Mx Go.Lx
theorem zkX{xs:List Nat}{i v:Nat}(h:i<xs.length):zfo (iL xs) (i:Int) (v:Int)=some (iL (xs.set i v)):=by
 rw[zga (by rw[zao]; exact h)]; simp[iL]
theorem zr9:∀ {xs:List Nat} {i k:Nat} (h:i<xs.length),(xs.set i (xs[i]+k)).sum=xs.sum+k
 | [],i,k,h=>absurd h (qap _)
 | x :: xs,0,k,h=>by simp; omega
 | x :: xs,i+1,k,h=>by
  have:=zr9 (xs:=xs) (i:=i) (k:=k) (by simpa using h);simp only[qcF,qc1,List.getElem_cons_succ,this];omega
theorem zi5:∀ {xs:List Nat} {i:Nat} (h:i<xs.length),xs[i]≤xs.sum
 | [],i,h=>absurd h (qap _)
 | x :: xs,0,h=>by simp
 | x :: xs,i+1,h=>by
  have:=zi5 (xs:=xs) (i:=i) (by simpa using h);simp only[qc1,List.getElem_cons_succ];omega
theorem zdU{xs0 bs:List Nat}{x:Nat}:za3 (iL (xs0 ++ x :: bs)) ((xs0.length:Nat):Int)=some (x:Int):=by
 rw[zbf (by simp)]; simp
theorem zhK{xs0 bs:List Nat}{x y:Nat}:zfo (iL (xs0 ++ x :: bs)) ((xs0.length:Nat):Int) (y:Int)=some (iL (xs0 ++ y :: bs)):=by
 rw[zkX (by simp)]; simp
theorem zkG{a b:Nat}(hb:0<b):zpW (a:Int) (b:Int)=some ((a % b:Nat):Int):=by
 unfold zpW;have:((b:Int)== 0)=false:=by simp; omega
 rw[this,cond_false]; rfl
theorem zun(a b:Nat):(a:Int).tmod (b:Int)=((a % b:Nat):Int):=rfl
theorem zBm{ws:List Nat}{g p c:Nat}(hp:p≤65536)(hc:c≤8):∀(n:Nat) (xs0:List Nat) (k:Nat),xs0.length+k=c→xs0.sum≤7 * xs0.length→k<n →
  ∃ zs:List Nat,zs.length=c∧zs.sum≤7 * c∧zcv (c:Int) (iL ws) (p:Int) n ((xs0.sum:Nat):Int) (xs0.length:Int) (iL (xs0 ++ List.replicate k 0))=some (((zs.sum:Nat):Int),iL zs)
 | 0,_,_,_,_,h=>absurd h (qap _)
 | n+1,xs0,0,h1,h2,h3=>by
  refine⟨xs0,by simpa using h1,by rw[← h1]; simpa using h2,?_⟩;unfold zcv;rw[zaz,decide_eq_false (by omega),cond_false];simp
 | n+1,xs0,k+1,h1,h2,h3=>by
  have step:∀ a:Nat,a≤7→∃ zs:List Nat,zs.length=c∧zs.sum≤7 * c∧zcv (c:Int) (iL ws) (p:Int) n (w64 (((xs0.sum:Nat):Int)+(a:Int))) (w64 ((xs0.length:Int)+1)) (iL (xs0 ++ a :: List.replicate k 0))=some (((zs.sum:Nat):Int),iL zs):=by
   intro a ha;obtain⟨zs,e1,e2,e3⟩:=zBm (ws:=ws) (g:=g) hp hc n (xs0 ++ [a]) k (by simp; omega) (by simp; omega) (by omega);refine⟨zs,e1,e2,?_⟩;rw[zal (by omega),← qcZ,zaH (by omega),← e3];simp
  unfold zcv;rw[zaz,decide_eq_true (by omega),cond_true,zao,qa0];by_cases h0:0<ws.length
  ·have hq:(p+xs0.length) % ws.length<ws.length:=qbc _ h0;obtain⟨zs,e1,e2,e3⟩:=step (ws[(p+xs0.length) % ws.length] % 8) (by omega);refine⟨zs,e1,e2,?_⟩
   rw[show decide ((0:Int)<(ws.length:Int))=true by simpa using h0,cond_true,← qcZ,zaH (by omega),zkG h0,qaa,zbf hq,qaa,zdU,
    qaa,show(((ws[(p+xs0.length) % ws.length]:Nat):Int).tmod 8)=((ws[(p+xs0.length) % ws.length] % 8:Nat):Int)from rfl,zaH (by omega),zhK,
    qaa,qaa,zdU,qaa,e3]
  obtain⟨zs,e1,e2,e3⟩:=step 0 (by omega);refine⟨zs,e1,e2,?_⟩;rw[show decide ((0:Int)<(ws.length:Int))=false by simpa using h0,cond_false,qaa,zdU,qaa,e3]
theorem zAO{g t c:Nat}(hg:g≤60)(hc:c≤8)(ht:t≤65536):∀(n:Nat) (xs0 bs:List Nat) (m:Nat) (v:Nat),xs0.length+bs.length=c→xs0.sum * t+g * bs.sum≤g * t→bs.sum≤t→xs0.sum≤g→v<c→bs.length<n →
  ∃(zs:List Nat) (v':Nat),zs.length=c∧zs.sum≤g∧v'<c∧zcX (c:Int) (g:Int) (t:Int) n ((g - xs0.sum:Nat):Int) (v:Int) (xs0.length:Int) (iL (xs0 ++ bs))=some (((g - zs.sum:Nat):Int),(v':Int),iL zs)
 | 0,_,_,_,_,_,_,_,_,_,h=>absurd h (qap _)
 | n+1,xs0,[],m,v,h1,h2,h2b,h3,h4,h5=>by
  refine⟨xs0,v,by simpa using h1,h3,h4,?_⟩;unfold zcX;rw[zaz,decide_eq_false (by simp at h1; omega),cond_false];simp
 | n+1,xs0,b :: bs,m,v,h1,h2,h2b,h3,h4,h5=>by
  simp only[qaS,qc1]at h1 h2 h2b h5;unfold zcX;rw[zaz,decide_eq_true (by omega),cond_true,zdU,qaa];by_cases h0:0<b
  ·have hb:b≤t:=by omega
   have hgb:g * b≤60 * 65536:=qbz hg (by omega);have hd:g * b / t * t≤g * b:=Nat.div_mul_le_self _ _;have hs:xs0.sum+g * b / t≤g:=by
    have h6:(xs0.sum+g * b / t)* t≤g * t:=by
     rw[qaI];have:g * (b+bs.sum)=g * b+g * bs.sum:=Nat.mul_add _ _ _;omega
    exact qcf h6 (by omega)
   obtain⟨zs,v',e1,e2,e3,e4⟩:=zAO hg hc ht n (xs0 ++ [g * b / t]) bs m xs0.length (by simp; omega) (by
    have:g * (b+bs.sum)=g * b+g * bs.sum:=Nat.mul_add _ _ _
    simp only[List.sum_append,qc1,List.sum_nil,qbt,qaI]; omega) (by omega) (by simpa using hs) (by omega) (by omega)
   refine⟨zs,v',e1,e2,e3,?_⟩;have hq:ztA .i64 (w64 ((g:Int)* (b:Int))) (t:Int)=some ((g * b / t:Nat):Int):=by
    unfold ztA;have:((t:Int)== 0)=false:=by simp; omega
    rw[this,cond_false,← qbg,zaH (by omega)];have hle:g * b / t≤g * b:=Nat.div_le_self _ _;exact congrArg some (zaH (n:=g * b / t) (by omega))
   rw[show decide ((0:Int)<(b:Int))=true by simpa using h0,cond_true,hq,qaa,zhK,qaa,qaa];simp only[];rw[zdU,qaa,zal (by omega),show(((g - xs0.sum:Nat):Int) - ((g * b / t:Nat):Int))=((g - (xs0.sum+g * b / t):Nat):Int) by omega,zaH (qb5 (Nat.sub_le _ _) (by omega)),← e4];simp
  have hb:b=0:=by omega
  subst hb;obtain⟨zs,v',e1,e2,e3,e4⟩:=zAO hg hc ht n (xs0 ++ [0]) bs m v (by simp; omega) (by simp at h2 ⊢; omega) (by omega) (by simpa using h3) h4 (by omega);refine⟨zs,v',e1,e2,e3,?_⟩;rw[show decide ((0:Int)<((0:Nat):Int))=false from rfl,cond_false,qaa];simp only[];rw[zdU,qaa,zal (by omega),← Int.ofNat_sub (by omega),zaH (by omega),← e4];simp
theorem zxp{ws:List Nat}{g p c:Nat}(hg:g≤60)(hp:p≤65536)(h1:1≤c)(hc:c≤8):
  ∃ zs:List Nat,zs.length=c∧zs.sum=g∧ze1 (g:Int) (c:Int) (iL ws) (p:Int)=some (iL zs):=by
 obtain⟨zs,e1,e2,e3⟩:=zBm (ws:=ws) (g:=g) hp hc (c+2) [] c (by simp) (by simp) (by omega);obtain⟨ys,v,f1,f2,f3,f4⟩:=zAO (g:=g) (t:=zs.sum) (c:=c) hg hc (by omega) (c+2) [] zs 0 0 (by simp[e1]) (by simp) (qan _) (by simp) (by omega) (by omega);have hv:v<ys.length:=by omega
 refine⟨ys.set v (ys[v]+(g - ys.sum)),by simp[f1],by rw[zr9]; omega,?_⟩;unfold ze1;have hz:List.replicate c (0:Int)=iL (List.replicate c 0):=by simp[iL]
 simp only[qbr,List.sum_nil,qa2,qcU]at e3 f4;rw[zdp (by omega),qaa,hz,zaN];rw[show((0:Nat):Int)=0 from rfl]at e3 f4;rw[e3,qaa];simp only[];rw[f4,qaa];simp only[];rw[zbf hv,qaa,← qcZ,zaH,zkX hv,qaa];have:ys[v]≤ys.sum:=zi5 hv;omega
theorem zrG{c w:Nat}{os:List Int}{wh:Int}(hc:c≤5):∀(n i:Nat) (acc:List Int),acc.length=i→i≤c→c - i<n →
  ∃ zs:List Int,zs.length=c∧zbg ⟨List.replicate c 0,wh,os⟩ n (i:Int) acc=some zs
 | 0,_,_,_,_,h=>absurd h (qap _)
 | n+1,i,acc,h1,h2,h3=>by
  unfold zbg;simp only[qdb];by_cases hi:i<c
  ·obtain⟨zs,e1,e2⟩:=zrG (w:=w) (os:=os) (wh:=wh) hc n (i+1) (acc ++ [1]) (by simp[h1]) hi (by omega);refine⟨zs,e1,?_⟩
   rw[zaz,decide_eq_true hi,cond_true,qaa,show decide ((i:Int)<5)=true by simp; omega,cond_true,zbd (by simpa using hi),qaa,
    List.getElem_replicate,show w64 (1+w64 ((0:Int).tmod 4))=1 from rfl,zd1 (by simp; omega),qaa,zal (by omega),e2]
  exact⟨acc,by omega,by rw[zaz,decide_eq_false hi,cond_false,qaa,cond_false]⟩
theorem ztM{c N:Nat}{os:List Int}{wh:Int}(hc:c≤5)(hN:6≤N):∃ zs:List Int,zs.length=c∧zbA N ⟨List.replicate c 0,wh,os⟩=some zs:=by
 obtain⟨zs,e1,e2⟩:=zrG (w:=0) (os:=os) (wh:=wh) hc N 0 [] rfl (qaC _) (by omega);refine⟨zs,e1,?_⟩;unfold zbA;rw[show((0:Nat):Int)=0 from rfl]at e2;rw[e2,qaa]
structure PermOk (c:Nat) (xs:List Nat):Prop where
 len:xs.length=c
 nod:xs.Nodup
 lt:∀ x∈xs,x<c
 all:∀ x,x<c→x∈xs
theorem zgf{α:Type}{xs:List α}{a b:Nat}(h1:a≤b)(h2:b≤xs.length):zdd xs (a:Int) (b:Int)=some ((xs.drop a).take (b - a)):=by
 unfold zdd;rw[if_pos (by omega)];simp
theorem zvb{c N:Nat}{os:List Nat}{wh:Int}(hc:c≤5)(hN:6≤N)(ho:∀ o∈os,o≤255):∀(n i:Nat) (xs:List Nat),PermOk i xs→i≤c→c - i<n →
  ∃ zs:List Nat,PermOk c zs∧zaw N ⟨List.replicate c 0,wh,iL os⟩ n (i:Int) (iL xs)=some (iL zs)
 | 0,_,_,_,_,h=>absurd h (qap _)
 | n+1,i,xs,h1,h2,h3=>by
  unfold zaw;obtain⟨z0,z1,z2⟩:=ztM (os:=iL os) (wh:=wh) hc hN;rw[z2,qaa,z1];by_cases hi:i<c
  ·have step:∀ q:Nat,q≤i→∃ zs:List Nat,PermOk c zs∧((zdd (iL xs) 0 (q:Int)).bind fun y9=>
     (ze3 8 y9).bind fun y11=>(zem 8 y9 [(i:Int)]).bind fun y13=>(zdd (iL xs) (q:Int) (iL xs).length).bind fun y15=>(zem 8 y13 y15).bind fun y17=>
     zaw N ⟨List.replicate c 0,wh,iL os⟩ n (w64 ((i:Int)+1)) y17)=some (iL zs):=by
    intro q hq;have hl:=h1.len;have hp:List.Perm (xs.take q ++ i :: xs.drop q) (i :: xs):=by
     refine List.perm_middle.trans ?_;rw[qbR]
    obtain⟨zs,e1,e2⟩:=zvb (wh:=wh) hc hN ho n (i+1) (xs.take q ++ i :: xs.drop q) ⟨by rw[hp.length_eq]; simp[hl],hp.nodup_iff.2 (qbh.2 ⟨fun hx=>qcY _ (h1.lt _ hx),h1.nod⟩),
     fun x hx=>by
      rcases qaz.1 (hp.mem_iff.1 hx)with h | h
      ·omega
      have:=h1.lt _ h; omega,
     fun x hx=>hp.mem_iff.2 (by
      by_cases hxi:x=i
      ·exact qaz.2 (.inl hxi)
      exact qaj _ (h1.all _ (by omega)))⟩ hi (by omega)
    refine⟨zs,e1,?_⟩
    rw[show(0:Int)=((0:Nat):Int)from rfl,zgf (qaC _) (by rw[zao]; omega),qaa,zhG (by simp[zao]; omega),qaa,
     zd1 (by simp[zao]; omega),qaa,zgf (by rw[zao]; omega) (qan _),qaa,zd1 (by simp[zao]; omega),qaa,zal (by omega),← e2]
    congr 1
    simp[iL,qaW]
   rw[zaz,decide_eq_true hi,cond_true];simp only[zao (os)];by_cases hio:i<os.length
   ·have hq:os[i] % (i+1)≤i:=Nat.lt_succ_iff.1 (qbc _ (Nat.succ_pos _));have hb:=ho _ (qat hio);obtain⟨zs,e1,e2⟩:=step _ hq;refine⟨zs,e1,?_⟩;rw[zaz,decide_eq_true hio,cond_true,zbf hio,qaa,zaH (by omega),zal (by omega),zkG (by omega),qaa,qaa,← zal (by omega)];exact e2
   obtain⟨zs,e1,e2⟩:=step 0 (qaC _);refine⟨zs,e1,?_⟩;rw[zaz,decide_eq_false hio,cond_false,qaa];exact e2
  have:i=c:=by omega
  subst this;exact⟨xs,h1,by rw[zaz,decide_eq_false hi,cond_false]⟩
theorem zww{c N:Nat}{os:List Nat}{wh:Int}(hc:c≤5)(hN:6≤N)(ho:∀ o∈os,o≤255):
  ∃ zs:List Nat,PermOk c zs∧za5 N ⟨List.replicate c 0,wh,iL os⟩=some (iL zs):=by
 obtain⟨zs,e1,e2⟩:=zvb (wh:=wh) hc hN ho N 0 [] ⟨rfl,List.nodup_nil,by simp,by simp⟩ (qaC _) (by omega);refine⟨zs,e1,?_⟩;unfold za5;rw[show((0:Nat):Int)=0 from rfl,show iL []=[]from rfl]at e2;rw[e2,qaa]
structure NN where
 c:Nat
 ps:List Nat
 rows:List (List Nat)
def nd(x:NN):S_api_Node:=⟨x.c,iL x.ps,x.rows.map iL⟩
theorem zoI(k:IntKind)(a:Int){v:Nat}:∃ q,zhP k a (v:Int)=some q:=by
 unfold zhP;rw[if_pos (qbM v)];exact⟨_,rfl⟩
theorem zu1{num ps:List Nat}{ps8:Int}{u k:Nat}(hk:k<num.length):∃ b,zuV (iL num) ps8 (u:Int) (k:Int) (iL ps)=some b∧(b=true→num[k]=u∧ps.length<3):=by
 unfold zuV;rw[zbf hk,qaa];by_cases h:num[k]=u
 ·obtain⟨q,e⟩:=zoI .u8 ps8 (v:=k % 18446744073709551616);rw[show(((num[k]:Nat):Int)==(u:Int))=true by simp[h],cond_true,zyn,e,qaa];cases zfz .u8 q 1 == 1 with
  | true=>exact⟨_,rfl,fun h2=>⟨h,by rw[zao]at h2; have:=of_decide_eq_true h2; omega⟩⟩
  | false=>exact⟨_,rfl,fun h2=>by cases h2⟩
 rw[show(((num[k]:Nat):Int)==(u:Int))=false by simp; omega,cond_false];exact⟨_,rfl,fun h2=>by cases h2⟩
theorem zkw{num:List Nat}{ps8:Int}{u i:Nat}(hi:i≤num.length)(hn:num.length≤5)(hd:num.Nodup):∀(n k:Nat) (ps:List Nat),ps.length≤3→k≤i→i - k<n →
  ∃ qs:List Nat,zm7 (iL num) (i:Int) ps8 (u:Int) n (k:Int) (iL ps)=some (iL qs)∧(qs=ps∨(qs=ps ++ [u]∧ps.length<3∧∃ j,k≤j∧j<i∧num[j]? = some u))
 | 0,_,_,_,_,h=>absurd h (qap _)
 | n+1,k,ps,h1,h2,h3=>by
  unfold zm7;by_cases hk:k<i
  ·obtain⟨b,e,hb⟩:=zu1 (num:=num) (ps:=ps) (ps8:=ps8) (u:=u) (k:=k) (by omega);rw[zaz,decide_eq_true hk,cond_true,e,qaa];cases b with
   | false=>
    obtain⟨qs,e2,h4⟩:=zkw (ps8:=ps8) (u:=u) hi hn hd n (k+1) ps h1 hk (by omega);refine⟨qs,by rw[cond_false,zal (by omega),e2],?_⟩;rcases h4 with h4 | ⟨h4,h5,j,h6,h7,h8⟩
    ·exact .inl h4
    ·exact .inr ⟨h4,h5,j,by omega,h7,h8⟩
   | true=>
    obtain⟨h5,h6⟩:=hb rfl;obtain⟨qs,e2,h4⟩:=zkw (ps8:=ps8) (u:=u) hi hn hd n (k+1) (ps ++ [u]) (by simp; omega) hk (by omega);refine⟨qs,?_,.inr ⟨?_,h6,k,qan _,hk,by rw[qac (by omega),h5]⟩⟩
    ·rw[cond_true,zd1 (by simp[zao]; omega),qaa,zal (by omega),← e2];simp[iL]
    rcases h4 with h4 | ⟨h4,h7,j,h8,h9,h10⟩
    ·exact h4
    exfalso
    have hj:j<num.length:=by omega
    rw[qac hj]at h10;have h12:num[j]=num[k]'(by omega):=by rw[h5]; exact qae h10
    exact qbb.1 hd k j (by omega) hj (by omega) h12.symm
  exact⟨ps,by rw[zaz,decide_eq_false hk,cond_false],.inl rfl⟩
structure ParOk (num:List Nat) (i:Nat) (b:Nat) (ps:List Nat):Prop where
 len:ps.length≤3
 inc:ps.Pairwise (· < ·)
 lt:∀ p∈ps,p<b
 mem:∀ p∈ps,∃ j,j<i∧num[j]? = some p
theorem zo4{num:List Nat}{ps8:Int}{i c:Nat}(hi:i≤num.length)(hn:num.length≤5)(hc:c≤5)(hd:num.Nodup):∀(n u:Nat) (ps:List Nat),ParOk num i u ps→u≤c→c - u<n →
  ∃ qs:List Nat,zqd (iL num) (i:Int) ps8 (c:Int) n (u:Int) (iL ps)=some (iL qs)∧ParOk num i c qs
 | 0,_,_,_,_,h=>absurd h (qap _)
 | n+1,u,ps,h1,h2,h3=>by
  unfold zqd;by_cases hu:u<c
  ·obtain⟨qs,e,h4⟩:=zkw (ps8:=ps8) (u:=u) hi hn hd (i+2) 0 ps h1.len (qaC _) (by omega);rw[show((0:Nat):Int)=0 from rfl]at e;have hq:ParOk num i (u+1) qs:=by
    rcases h4 with h4 | ⟨h4,h5,j,h6,h7,h8⟩
    ·subst h4;exact⟨h1.len,h1.inc,fun p hp=>qcI (h1.lt p hp),h1.mem⟩
    subst h4;refine⟨by simp; omega,?_,?_,?_⟩
    ·rw[qcL];exact⟨h1.inc,List.pairwise_singleton _ _,fun a ha b hb=>by rw[qaQ.1 hb]; exact h1.lt a ha⟩
    ·intro p hp;rcases qa9.1 hp with hp | hp
     ·exact qcI (h1.lt p hp)
     rw[qaQ.1 hp]; exact qbH _
    intro p hp;rcases qa9.1 hp with hp | hp
    ·exact h1.mem p hp
    rw[qaQ.1 hp]; exact⟨j,h7,h8⟩
   obtain⟨rs,e2,h9⟩:=zo4 (ps8:=ps8) hi hn hc hd n (u+1) qs hq hu (by omega);refine⟨rs,?_,h9⟩;rw[zaz,decide_eq_true hu,cond_true,qaK,e,qaa,zal (by omega),e2]
  have:u=c:=by omega
  subst this;exact⟨ps,by rw[zaz,decide_eq_false hu,cond_false],h1⟩
theorem zch{ns:List NN}{v:Nat}(h:v<ns.length):za3 (ns.map nd) (v:Int)=some (nd ns[v]):=by
 rw[zbd (by simpa using h)]; simp
theorem zgl{ns:List NN}{v:Nat}{x:NN}(h:v<ns.length):zfo (ns.map nd) (v:Int) (nd x)=some ((ns.set v x).map nd):=by
 rw[zga (by simpa using h)]; simp
theorem zwf{num:List Nat}{ps8:Int}{i:Nat}{ns:List NN}{v:Nat}(hi:i≤num.length)(hn:num.length≤5)(hl:ns.length≤5)(hd:num.Nodup)(hv:v<ns.length)(hp:ns[v].ps=[]):
  ∃ qs:List Nat,znf (iL num) (i:Int) (v:Int) (ns.length:Int) ps8 (ns.map nd)=some ((ns.set v ⟨ns[v].c,qs,ns[v].rows⟩).map nd)∧ParOk num i ns.length qs:=by
 obtain⟨qs,e,h⟩:=zo4 (ps8:=ps8) hi hn hl hd (ns.length+2) 0 [] ⟨by simp,by simp,by simp,by simp⟩ (qaC _) (by omega);refine⟨qs,?_,h⟩;unfold znf;rw[show((0:Nat):Int)=0 from rfl,show iL []=[]from rfl]at e;rw[zch hv,qaa,show(nd ns[v]).parents.isEmpty=true by simp[nd,hp,iL],cond_true,qaK,e,qaa];exact zgl (x:=⟨ns[v].c,qs,ns[v].rows⟩) hv
structure RowsOk (g c m:Nat) (rows:List (List Nat)):Prop where
 len:rows.length=m
 row:∀ r∈rows,r.length=c∧r.sum=g
theorem ziO{ns:List NN}{v:Nat}{x:NN}(hv:v<ns.length)(hx:x.c=ns[v].c):(ns.set v x).map (·.c)=ns.map (·.c):=by
 rw[List.map_set,hx];apply qb8 (by simp);intro i h1 h2;rw[List.getElem_set];split
 ·subst_vars; simp
 rfl
def zdn(ns:List NN)(ps:List Nat):List Nat:=ps.map fun p=>(ns.map (·.c)).getD p 0
theorem zxC{xs:List Nat}{p:Nat}:(iL xs).getD p 0=((xs.getD p 0:Nat):Int):=by
 simp only[iL,qah,qaT];cases xs[p]?<;>rfl
theorem zAA{g:Int}{ns:List NN}{v:Nat}(hl:ns.length≤8)(hv:v<ns.length)(hp:Pl ns.length ns[v].ps)(h8:ns[v].ps.length≤8):
  zbm ⟨g,ns.map nd⟩ (v:Int)=some (iL (zdn ns ns[v].ps)):=by
 unfold zbm;rw[zch hv,qaa,zuz (by simpa using hl),qaa];have hc:(ns.map nd).map (·.zaD)=iL (ns.map (·.c)):=by simp[iL,nd,Function.comp_def]
 simp only[];rw[hc,show(nd ns[v]).parents=iL ns[v].ps from rfl,zAN (by rw[zao,qaA]; exact hp) h8,qaa];congr 1
 simp only[zxC];simp only[zdn,iL,qdk,Function.comp_def]
theorem zoj{g:Nat}{W:List Nat}{ns:List NN}{v m:Nat}(hg:g≤60)(hl:ns.length≤8)(hv:v<ns.length)(hp:Pl ns.length ns[v].ps)(h8:ns[v].ps.length≤8)(hc1:1≤ns[v].c)(hc4:ns[v].c≤4)
  (hs:∀ x∈zdn ns ns[v].ps,1≤x) (hm:zac (zdn ns ns[v].ps)=m) (hm2:m≤1024):∀(n r:Nat) (rows:List (List Nat)),RowsOk g ns[v].c r rows→r≤m→m - r<n →
  ∃ rows',RowsOk g ns[v].c m rows'∧zp1 (g:Int) (v:Int) (iL W) (ns.map nd) (nd ns[v]) n (r:Int) (rows.map iL)=some (rows'.map iL)
 | 0,_,_,_,_,h=>absurd h (qap _)
 | n+1,r,rows,h1,h2,h3=>by
  unfold zp1;have hx:(⟨(nd ns[v]).zaD,(nd ns[v]).parents,rows.map iL⟩:S_api_Node)=nd ⟨ns[v].c,ns[v].ps,rows⟩:=rfl;have hpc:zbm ⟨g,(ns.set v ⟨ns[v].c,ns[v].ps,rows⟩).map nd⟩ (v:Int)=some (iL (zdn ns ns[v].ps)):=by
   rw[zAA (by simpa using hl) (by simpa using hv) (by simpa using hp) (by simpa using h8)];unfold zdn;rw[ziO (x:=⟨ns[v].c,ns[v].ps,rows⟩) hv rfl];simp
  rw[hx,zgl hv,qaa,hpc,qaa,zw5 hs (by simpa [zdn]using h8) (by omega),qaa,hm];by_cases hr:r<m
  ·have hmul:r * (ns[v].c+1)≤1024 * 5:=qbz (by omega) (by omega);obtain⟨zs,e1,e2,e3⟩:=zxp (ws:=W) (g:=g) (p:=r * (ns[v].c+1)) (c:=ns[v].c) hg (by omega) hc1 (by omega)
   obtain⟨rows',e4,e5⟩:=zoj hg hl hv hp h8 hc1 hc4 hs hm hm2 (W:=W) n (r+1) (rows ++ [zs]) ⟨by simp[h1.len],by
    intro y hy;rcases qa9.1 hy with hy | hy
    ·exact h1.row y hy
    rw[qaQ.1 hy]; exact⟨e1,e2⟩⟩ hr (by omega)
   refine⟨rows',e4,?_⟩;have hcard:(nd ns[v]).zaD=((ns[v].c:Nat):Int):=rfl;have hlen:=h1.len;rw[zaz,decide_eq_true hr,cond_true,hcard,zal (by omega),← qbg,zaH (by omega),e3,qaa,zd1 (by simp; omega),qaa,zal (by omega),← e5];simp
  have:r=m:=by omega
  subst this;exact⟨rows,h1,by rw[zaz,decide_eq_false hr,cond_false]⟩
theorem zwX{g N:Nat}{W:List Nat}{ns:List NN}{v:Nat}(hg:g≤60)(hl:ns.length≤8)(hv:v<ns.length)(hp:Pl ns.length ns[v].ps)(h8:ns[v].ps.length≤8)(hc1:1≤ns[v].c)(hc4:ns[v].c≤4)
  (hs:∀ x∈zdn ns ns[v].ps,1≤x) (hm2:zac (zdn ns ns[v].ps)≤1024) (hr:ns[v].rows=[]) (hN:1025≤N):
  ∃ rows,RowsOk g ns[v].c (zac (zdn ns ns[v].ps)) rows∧zn1 N (g:Int) (v:Int) (iL W) (ns.map nd)=some ((ns.set v ⟨ns[v].c,ns[v].ps,rows⟩).map nd):=by
 obtain⟨rows,e1,e2⟩:=zoj hg hl hv hp h8 hc1 hc4 hs rfl hm2 (W:=W) N 0 [] ⟨rfl,by simp⟩ (qaC _) (by omega);refine⟨rows,e1,?_⟩;unfold zn1;rw[show((0:Nat):Int)=0 from rfl,show([]:List (List Nat)).map iL=[]from rfl]at e2;rw[zch hv,qaa,show(nd ns[v]).rows.isEmpty=true by simp[nd,hr],cond_true,e2,qaa];exact zgl (x:=⟨ns[v].c,ns[v].ps,rows⟩) hv
structure NodeOk (num:List Nat) (g:Nat) (cs:List Nat) (j:Nat) (x:NN):Prop where
 par:ParOk num j cs.length x.ps
 rows:RowsOk g x.c (zac (x.ps.map fun p=>cs.getD p 0)) x.rows
structure NetOk (num:List Nat) (g:Nat) (ns:List NN):Prop where
 g1:1≤g
 g2:g≤60
 n1:1≤ns.length
 n2:ns.length≤8
 zaD:∀ x∈ns,1≤x.c∧x.c≤4
 prod:zac (ns.map (·.c))≤1024
 perm:PermOk ns.length num
 node:∀(j v:Nat) (x:NN),num[j]? = some v→ns[v]? = some x→NodeOk num g (ns.map (·.c)) j x
structure PieceN where
 zaD:Nat
 parents:Nat
 w:List Nat
structure DraftN where
 grain:Nat
 nodes:List PieceN
 order:List Nat
def zoU(x:PieceN):S_haruspexref05_Piece:=⟨x.zaD,x.parents,iL x.w⟩
def zcB(d:DraftN):S_haruspexref05_Draft:=⟨d.grain,d.nodes.map zoU,iL d.order⟩
structure DraftOk (d:DraftN):Prop where
 grain:d.grain≤255
 zaD:∀ x∈d.nodes,x.zaD≤255
 order:∀ x∈d.order,x≤255
def zk5(d:DraftN):Nat:=min (max d.nodes.length 1) 5
theorem zm3(d:DraftN):zcF (zcC ((zcB d).nodes.length:Int) 1) 5=((zk5 d:Nat):Int):=by
 simp only[zcF,zcC,zk5,zcB,qaA];split<;>split<;>omega
def zlV(xs:List Nat):Nat:=xs.foldr (fun x a=>max 1 x * a) 1
theorem zmG:∀ {xs:List Nat} {i c:Nat},xs[i]? = some 0→1≤c→zlV (xs.set i c)=zlV xs * c
 | [],i,c,h,hc=>by simp at h
 | x :: xs,0,c,h,hc=>by
  have:x=0:=by simpa using h
  subst this;simp only[qcE,zlV,qdj];rw[Nat.max_eq_right hc,Nat.max_eq_left (qaC _),qba,qaR]
 | x :: xs,i+1,c,h,hc=>by
  have ih:=zmG (xs:=xs) (i:=i) (c:=c) (by simpa using h) hc;simp only[qcF,zlV,qdj]at ih ⊢;rw[ih,qa4]
theorem zop:∀ {xs:List Nat},(∀ x∈xs,1≤x)→zlV xs=zac xs
 | [],_=>rfl
 | x :: xs,h=>by
  have ih:=zop (xs:=xs) fun y hy=>h y (qaj _ hy)
  have hx:=h x qao;simp only[zlV,zac,qdj]at ih ⊢;rw[ih,Nat.max_eq_right hx]
theorem zBP{a v:Nat}(h:a * 2 ^ v<9223372036854775808)(hv:v<64):zmB .i64 (a:Int) (v:Int)=some ((a * 2 ^ v:Nat):Int):=by
 unfold zmB;rw[if_pos (qbM v)];congr 1
 have h1:min (v:Int).toNat IntKind.i64.bits=v:=by
  rw[show IntKind.i64.bits=64 from rfl,qaK]; exact qb0 (by omega)
 rw[h1];have h2:(a:Int)* ((2:Int) ^ v)=((a * 2 ^ v:Nat):Int):=by simp
 rw[h2];exact zaH h
structure L1Ok (num:List Nat) (c j a:Nat) (ns:List NN):Prop where
 len:ns.length=c
 bare:∀ x∈ns,x.ps=[]∧x.rows=[]
 prod:zlV (ns.map (·.c))=a
 low:a * 2 ^ (c - j)≤100
 done:∀(k v:Nat),k<j→num[k]? = some v→∃ x,ns[v]? = some x∧2≤x.c∧x.c≤3
 left:∀(k v:Nat),j≤k→num[k]? = some v→∃ x,ns[v]? = some x∧x.c=0
theorem zmQ{d:DraftN}(hd:DraftOk d){j:Nat}:∃(zaD parents:Nat) (w:List Nat),zaD≤255 ∧
  ((bif (decide ((j:Int)<((zcB d).nodes.length:Int)))then(
(za3 (zcB d).nodes (j:Int)).bind fun x9=>
some (x9.zaD,x9.parents,x9.w))
else(
some (0,0,[])):Option ((Int×Int×(List Int)))))=some ((zaD:Int),(parents:Int),iL w):=by
 have hl:(zcB d).nodes.length=d.nodes.length:=by simp[zcB]
 by_cases hj:j<d.nodes.length
 ·refine⟨d.nodes[j].zaD,d.nodes[j].parents,d.nodes[j].w,hd.zaD _ (qat hj),?_⟩;rw[hl,zaz,decide_eq_true hj,cond_true,zbd (by rw[hl]; exact hj),qaa];simp[zcB,zoU]
 refine⟨0,0,[],by omega,?_⟩;rw[hl,zaz,decide_eq_false hj,cond_false];rfl
theorem zvZ{d:DraftN}(hd:DraftOk d){num:List Nat}{c:Nat}(hc:zk5 d=c)(hp:PermOk c num):∀(n j a:Nat) (ns:List NN),L1Ok num c j a ns→j≤c→c - j<n →
  ∃(ns':List NN) (a':Nat),L1Ok num c c a' ns'∧zbh (zcB d) (iL num) n (a:Int) (j:Int) (ns.map nd)=some (ns'.map nd)
 | 0,_,_,_,_,_,h=>absurd h (qap _)
 | n+1,j,a,ns,h1,h2,h3=>by
  have hc5:c≤5:=by rw[← hc]; exact qcz _ _
  unfold zbh;rw[zm3,hc];by_cases hj:j<c
  ·rw[zaz,decide_eq_true hj,cond_true];obtain⟨zaD,parents,w,hcard,e⟩:=zmQ hd (j:=j);rw[e,qaa];simp only[];have hjn:j<num.length:=by rw[hp.len]; exact hj
   have hv:num[j]<ns.length:=by rw[h1.len]; exact hp.lt _ (qat hjn)
   obtain⟨x0,hx0,hx00⟩:=h1.left j num[j] (qan _) (qac hjn);have hx1:ns[num[j]]=x0:=by rw[qac hv]at hx0; exact qae hx0
   have hbare:=h1.bare _ (qat hv);have hpow:1≤2 ^ (c - 1 - j):=Nat.one_le_two_pow;have hsplit:2 ^ (c - j)=2 * 2 ^ (c - 1 - j):=by rw[show c - j=(c - 1 - j)+1 by omega,Nat.pow_succ,qaR]
   have hlow:=h1.low;have hle:a * 2 ^ (c - 1 - j)≤100:=qam (qcd a (by omega)) hlow;have ha:a≤100:=qam (qaZ a hpow) hle;have step:∀ b:Nat,2≤b→b≤3→a * b * 2 ^ (c - 1 - j)≤100→∃(ns':List NN) (a':Nat),L1Ok num c c a' ns' ∧
     ((za3 (iL num) (j:Int)).bind fun x14=>(za3 (ns.map nd) x14).bind fun x16=>(zfo (ns.map nd) x14 (S_api_Node.mk (b:Int) x16.parents x16.rows)).bind fun y18=>
      zbh (zcB d) (iL num) n (w64 ((a:Int)* (b:Int))) (w64 ((j:Int)+1)) y18)=some (ns'.map nd):=by
    intro b hb1 hb2 hb3;have hab:a * b≤100:=qam (qaZ _ hpow) hb3
    obtain⟨ns',a',f1,f2⟩:=zvZ hd hc hp n (j+1) (a * b) (ns.set num[j] ⟨b,ns[num[j]].ps,ns[num[j]].rows⟩) {
     len:=by simpa using h1.len
     bare:=fun y hy=>by
      rcases qbX hy with hy | hy
      ·exact h1.bare y hy
      subst hy; exact hbare
     prod:=by
      rw[List.map_set,zmG (c:=b) (by rw[qaT,qac hv,hx1]; simp[hx00]) (by omega),h1.prod]
     low:=by rw[show c - (j+1)=c - 1 - j by omega]; exact hb3
     done:=fun k v hk hkv=>by
      by_cases hkj:k=j
      ·subst hkj;rw[qac hjn]at hkv;have:=qae hkv;subst this;exact⟨_,qaD hv,hb1,hb2⟩
      obtain⟨x,g1,g2⟩:=h1.done k v (by omega) hkv;refine⟨x,?_,g2⟩;rw[qaq,g1];intro hh;have hk':=(qab.1 hkv);have hkl:k<num.length:=hk'.1;exact qbb.1 hp.nod k j hkl hjn (by omega) (by rw[hk'.2]; exact hh.symm)
     left:=fun k v hk hkv=>by
      obtain⟨x,g1,g2⟩:=h1.left k v (by omega) hkv;refine⟨x,?_,g2⟩;rw[qaq,g1];intro hh;have hk':=(qab.1 hkv);have hkl:k<num.length:=hk'.1
      exact qbb.1 hp.nod j k hjn hkl (by omega) (by rw[hk'.2]; exact hh) } hj (by omega)
    refine⟨ns',a',f1,?_⟩
    rw[zbf hjn,qaa,zch hv,qaa,show S_api_Node.mk (b:Int) (nd ns[num[j]]).parents (nd ns[num[j]]).rows=nd ⟨b,ns[num[j]].ps,ns[num[j]].rows⟩from rfl,
     zgl hv,qaa,← qbg,zaH (by omega),zal (by omega),f2]
   have hw1:w64 (2+w64 ((zaD:Int).tmod 2))=((2+zaD % 2:Nat):Int):=by
    rw[show((zaD:Int).tmod 2)=((zaD % 2:Nat):Int)from rfl,zaH (by omega),show(2:Int)+((zaD % 2:Nat):Int)=((2+zaD % 2:Nat):Int) by omega,zaH (by omega)]
   have hac:a * (2+zaD % 2)≤100 * 3:=qbz ha (by omega);have hbig:a * (2+zaD % 2)* 2 ^ (c - 1 - j)≤300 * 2 ^ 4:=qbz hac (qbT (by decide) (by omega));have hcc:w64 (((c:Nat):Int) - 1)=((c - 1:Nat):Int):=by rw[show((c:Nat):Int) - 1=((c - 1:Nat):Int) by omega,zaH (by omega)]
   have hcj:w64 (((c - 1:Nat):Int) - (j:Int))=((c - 1 - j:Nat):Int):=by rw[show((c - 1:Nat):Int) - (j:Int)=((c - 1 - j:Nat):Int) by omega,zaH (by omega)]
   rw[hw1,hcc,hcj,zet (by omega),← qbg,zaH (by omega),zBP (by omega) (by omega),qaa];by_cases hbg:100<a * (2+zaD % 2)* 2 ^ (c - 1 - j)
   ·obtain⟨ns',a',f1,f2⟩:=step 2 (by omega) (by omega) (by rw[qa4,← hsplit]; exact hlow);refine⟨ns',a',f1,?_⟩;rw[show decide ((100:Int)<((a * (2+zaD % 2)* 2 ^ (c - 1 - j):Nat):Int))=true from decide_eq_true (by omega),cond_true,qaa];exact f2
   obtain⟨ns',a',f1,f2⟩:=step (2+zaD % 2) (by omega) (by omega) (by omega);refine⟨ns',a',f1,?_⟩;rw[show decide ((100:Int)<((a * (2+zaD % 2)* 2 ^ (c - 1 - j):Nat):Int))=false from decide_eq_false (by omega),cond_false,qaa];exact f2
  have:j=c:=by omega
  subst this;exact⟨ns,a,h1,by rw[zaz,decide_eq_false hj,cond_false]⟩
structure L2Ok (num:List Nat) (g c:Nat) (cs:List Nat) (i:Nat) (ns:List NN):Prop where
 len:ns.length=c
 zay:ns.map (·.c)=cs
 done:∀(k v:Nat) (x:NN),k<i→num[k]? = some v→ns[v]? = some x→NodeOk num g cs k x
 left:∀(k v:Nat) (x:NN),i≤k→num[k]? = some v→ns[v]? = some x→x.ps=[]∧x.rows=[]
theorem zhz{m:Nat}(hm:1≤m):∀ {xs:List Nat},(∀ x∈xs,x≤m)→zac xs≤m ^ xs.length
 | [],_=>qan 1
 | x :: xs,h=>by
  have ih:=zhz hm (xs:=xs) fun y hy=>h y (qaj _ hy)
  rw[qaS,Nat.pow_succ,qaR];exact qbz (h x qao) ih
theorem zvC{xs:List Nat}(h:xs.Nodup){i j v w:Nat}(hi:xs[i]? = some v)(hj:xs[j]? = some w)(hne:i≠j):v≠w:=by
 obtain⟨h1,h2⟩:=qab.1 hi;obtain⟨h3,h4⟩:=qab.1 hj;intro he;rcases Nat.lt_or_gt_of_ne hne with hlt | hlt
 ·exact qbb.1 h i j h1 h3 hlt (by rw[h2,h4,he])
 exact qbb.1 h j i h3 h1 hlt (by rw[h2,h4,he])
theorem zvQ{d:DraftN}(hd:DraftOk d){num:List Nat}{c N:Nat}{cs:List Nat}(hc:zk5 d=c)(hp:PermOk c num)(hs:∀ x∈cs,1≤x∧x≤3)(hN:1025≤N):∀(n i:Nat) (ns:List NN),L2Ok num (1+d.grain % 60) c cs i ns→i≤c→c - i<n →
  ∃ ns':List NN,L2Ok num (1+d.grain % 60) c cs c ns'∧zbp N (zcB d) (iL num) n (i:Int) (ns.map nd)=some (ns'.map nd)
 | 0,_,_,_,_,h=>absurd h (qap _)
 | n+1,i,ns,h1,h2,h3=>by
  have hc5:c≤5:=by rw[← hc]; exact qcz _ _
  unfold zbp;rw[zm3,hc];by_cases hi:i<c
  ·rw[zaz,decide_eq_true hi,cond_true];obtain⟨zaD,parents,w,hcard,e⟩:=zmQ hd (j:=i);rw[e,qaa];simp only[];have hin:i<num.length:=by rw[hp.len]; exact hi
   have hget:num[i]? = some num[i]:=qac hin;have hlen:=h1.len;have hcl:cs.length=c:=by rw[← h1.zay,qaA,h1.len]
   have hv:num[i]<ns.length:=by rw[h1.len]; exact hp.lt _ (qat hin)
   obtain⟨b1,b2⟩:=h1.left i num[i] ns[num[i]] (qan _) hget (qac hv);obtain⟨qs,e2,hq⟩:=zwf (num:=num) (ps8:=(parents:Int)) (i:=i) (ns:=ns) (v:=num[i]) (by omega) (by rw[hp.len]; omega) (by omega) hp.nod hv b1;rw[h1.len]at e2 hq;have hg:w64 (1+w64 ((zcB d).grain.tmod 60))=((1+d.grain % 60:Nat):Int):=by
    rw[show((zcB d).grain.tmod 60)=((d.grain % 60:Nat):Int)from rfl,zaH (by omega),show(1:Int)+((d.grain % 60:Nat):Int)=((1+d.grain % 60:Nat):Int) by omega,zaH (by omega)]
   have hset:(ns.set num[i] ⟨ns[num[i]].c,qs,ns[num[i]].rows⟩)[num[i]]'(by simpa using hv)=⟨ns[num[i]].c,qs,ns[num[i]].rows⟩:=by simp
   have hcs1:(ns.set num[i] ⟨ns[num[i]].c,qs,ns[num[i]].rows⟩).map (·.c)=cs:=by rw[ziO (x:=⟨ns[num[i]].c,qs,ns[num[i]].rows⟩) hv rfl,h1.zay]
   have hcv:1≤ns[num[i]].c∧ns[num[i]].c≤3:=hs _ (by rw[← h1.zay]; exact qaB.2 ⟨_,qat hv,rfl⟩);have hco:zdn (ns.set num[i] ⟨ns[num[i]].c,qs,ns[num[i]].rows⟩) qs=qs.map fun p=>cs.getD p 0:=by unfold zdn; rw[hcs1]
   have hqs:∀ x∈(qs.map fun p=>cs.getD p 0),1≤x∧x≤3:=by
    intro x hx;obtain⟨p,hpq,rfl⟩:=qaB.1 hx;have hpl:p<cs.length:=by rw[hcl]; exact hq.lt p hpq
    refine hs _ ?_;simp[hpl]
   have hprod:zac (qs.map fun p=>cs.getD p 0)≤3 ^ 3:=by
    refine qam (zhz (m:=3) (by omega) fun x hx=>(hqs x hx).2) ?_;rw[qaA];exact qbT (by decide) hq.len
   obtain⟨rows,r1,r2⟩:=zwX (g:=1+d.grain % 60) (N:=N) (W:=w) (ns:=ns.set num[i] ⟨ns[num[i]].c,qs,ns[num[i]].rows⟩) (v:=num[i]) (by omega) (by simp; omega) (by simpa using hv)
    (by rw[hset]; intro p hpq; rw[qaH,h1.len]; exact hq.lt p hpq) (by rw[hset]; have:=hq.len; simp; omega) (by rw[hset]; exact hcv.1) (by rw[hset]; have:=hcv.2; simp; omega)
    (by rw[hset,hco]; exact fun x hx=>(hqs x hx).1) (by rw[hset,hco]; exact qam hprod (by decide)) (by rw[hset]; exact b2) hN
   simp only[hset,hco,List.set_set]at r1 r2
   obtain⟨ns',f1,f2⟩:=zvQ hd hc hp hs hN n (i+1) (ns.set num[i] ⟨ns[num[i]].c,qs,rows⟩) {
    len:=by simpa using h1.len
    zay:=by rw[ziO (x:=⟨ns[num[i]].c,qs,rows⟩) hv rfl,h1.zay]
    done:=fun k v x hk hkv hx=>by
     by_cases hki:k=i
     ·subst hki;rw[hget]at hkv;have:=qae hkv;subst this;rw[qaD hv]at hx;have:=qae hx;subst this;exact⟨by rw[hcl]; exact hq,r1⟩
     rw[qaq (zvC hp.nod hget hkv (by omega))]at hx;exact h1.done k v x (by omega) hkv hx
    left:=fun k v x hk hkv hx=>by
     rw[qaq (zvC hp.nod hget hkv (by omega))]at hx
     exact h1.left k v x (by omega) hkv hx } hi (by omega)
   refine⟨ns',f1,?_⟩;rw[zbf hin,qaa,e2,qaa,hg,r2,qaa,zal (by omega),f2]
  have:i=c:=by omega
  subst this;exact⟨ns,h1,by rw[zaz,decide_eq_false hi,cond_false]⟩
theorem ztT{d:DraftN}(hd:DraftOk d){N:Nat}(hN:1025≤N):
  ∃(num:List Nat) (ns:List NN),NetOk num (1+d.grain % 60) ns∧ns.length≤5∧zbV N (zcB d)=some ⟨((1+d.grain % 60:Nat):Int),ns.map nd⟩:=by
 have hc5:zk5 d≤5:=qcz _ _;have hc1:1≤zk5 d:=by unfold zk5; omega
 obtain⟨num,hp,e1⟩:=zww (c:=zk5 d) (N:=N) (os:=d.order) (wh:=0) hc5 (by omega) hd.order;have hpl:=hp.len;have h0:∀ v,v<zk5 d→(List.replicate (zk5 d) (⟨0,[],[]⟩:NN))[v]? = some ⟨0,[],[]⟩:=fun v hv=>by simp[hv]
 obtain⟨ns1,a,h1,e2⟩:=zvZ hd rfl hp (zk5 d+2) 0 1 (List.replicate (zk5 d) ⟨0,[],[]⟩) {
  len:=by simp
  bare:=fun x hx=>by rw[(qci.1 hx).2]; exact⟨rfl,rfl⟩
  prod:=by
   rw[qcX];generalize zk5 d=c;induction c with
   | zero=>rfl
   | succ c ih=>rw[qa0]; simp only[zlV,qdj]at ih ⊢; rw[ih]; rfl
  low:=by
   have:2 ^ (zk5 d - 0)≤2 ^ 5:=qbT (by decide) (by omega);omega
  done:=fun k v hk hkv=>absurd hk (qap _)
  left:=fun k v hk hkv=>⟨_,h0 v (hp.lt v (qaw hkv)),rfl⟩ } (qaC _) (by omega)
 have hcards:∀ x∈ns1,2≤x.c∧x.c≤3:=by
  intro x hx;obtain⟨v,hv⟩:=qbK hx;have hvl:v<zk5 d:=by rw[← h1.len]; exact(qab.1 hv).1
  obtain⟨k,hk⟩:=qbK (hp.all v hvl);obtain⟨y,g1,g2⟩:=h1.done k v (by rw[← hpl]; exact(qab.1 hk).1) hk;rw[hv]at g1;have:=qae g1;subst this;exact g2
 have hcs:∀ x∈ns1.map (·.c),1≤x∧x≤3:=by
  intro x hx;obtain⟨y,hy,rfl⟩:=qaB.1 hx;have:=hcards y hy;exact⟨by omega,this.2⟩
 obtain⟨ns2,h2,e3⟩:=zvQ hd rfl hp hcs hN (zk5 d+2) 0 ns1 ⟨h1.len,rfl,fun k v x hk=>absurd hk (qap _),fun k v x hk hkv hx=>h1.bare x (qaw hx)⟩ (qaC _) (by omega);have hl2:=h2.len;have hlow:=h1.low;refine⟨num,ns2,⟨by omega,by omega,by omega,by omega,?_,?_,by rw[h2.len]; exact hp,?_⟩,by omega,?_⟩
 ·intro x hx;have:=hcs x.c (by rw[← h2.zay]; exact qaB.2 ⟨x,hx,rfl⟩);omega
 ·rw[h2.zay,← zop fun x hx=>(hcs x hx).1,h1.prod];rw[qdm,Nat.pow_zero]at hlow;omega
 ·intro j v x hj hx;rw[h2.zay];exact h2.done j v x (by rw[← hpl]; exact(qab.1 hj).1) hj hx
 have hg:w64 (1+w64 ((zcB d).grain.tmod 60))=((1+d.grain % 60:Nat):Int):=by
  rw[show((zcB d).grain.tmod 60)=((d.grain % 60:Nat):Int)from rfl,zaH (by omega),show(1:Int)+((d.grain % 60:Nat):Int)=((1+d.grain % 60:Nat):Int) by omega,zaH (by omega)]
 have hz:List.replicate (zk5 d) (S_api_Node.mk 0 [] [])=(List.replicate (zk5 d) (⟨0,[],[]⟩:NN)).map nd:=by rw[qcX]; rfl
 have e2':=e2;have e3':=e3;rw[show((0:Nat):Int)=0 from rfl]at e2' e3';rw[show((1:Nat):Int)=1 from rfl]at e2';unfold zbV;rw[zm3,zdp (by omega),qaa,zdp (by omega),qaa,show(zcB d).order=iL d.order from rfl,e1,qaa,zaN,hz,e2',qaa,e3',qaa,hg]
def zcJ(xs:List Nat):Nat:=xs.foldl (fun m p=>m ||| 2 ^ p) 0
theorem ztP(xs:List Nat)(p:Nat):zcJ (xs ++ [p])=zcJ xs ||| 2 ^ p:=by simp[zcJ]
theorem zmr:∀(xs:List Nat) (m i:Nat),(xs.foldl (fun m p=>m ||| 2 ^ p) m).testBit i=(m.testBit i || decide (i∈xs))
 | [],m,i=>by simp
 | x :: xs,m,i=>by
  rw[qcq,zmr xs,qbs,qbB,Bool.or_assoc];congr 1
  by_cases h:x=i
  ·simp[h]
  simp[h,show ¬ i=x from fun q=>h q.symm]
theorem zeu(xs:List Nat)(i:Nat):(zcJ xs).testBit i=decide (i∈xs):=by
 unfold zcJ; rw[zmr]; simp
theorem zn5:∀(xs:List Nat) (m:Nat),m<18446744073709551616→(∀ x∈xs,x<64)→xs.foldl (fun m p=>m ||| 2 ^ p) m<18446744073709551616
 | [],m,h,_=>h
 | x :: xs,m,h,hx=>zn5 xs _ (qbo (n:=64) h (qa7 (by decide) (hx x qao))) fun y hy=>hx y (qaj _ hy)
theorem zfT{xs:List Nat}(h:∀ x∈xs,x<64):zcJ xs<18446744073709551616:=zn5 xs 0 (by decide) h
def Sub(a b:Nat):Prop:=∀ i,a.testBit i=true→b.testBit i=true
theorem zl1{a b:Nat}(ha:a<18446744073709551616)(hb:b<18446744073709551616):diff a b=0↔Sub a b:=by
 constructor
 ·intro h i hi;have:=zfe (i:=i) ha hb;rw[h,hi]at this;simpa using this
 intro h;apply qbU;intro i;rw[zfe ha hb,Nat.zero_testBit];cases hi:a.testBit i with
 | false=>rfl
 | true=>rw[h i hi]; rfl
theorem zlL{cs ps:List Nat}{nodes:S_api_Net}{sets order:List Int}{x:S_api_Node}(hx:x.parents=iL ps)(hp:Pl cs.length ps)(hl:ps.length≤8)(hc:∀ p∈ps,1≤cs.getD p 0):∀(n i a:Nat),i≤ps.length →
  a * zac ((ps.drop i).map fun p=>cs.getD p 0)≤65536→ps.length - i<n →
  za0 x ⟨nodes,iL cs,sets,order⟩ n (a:Int) (i:Int)=some ((a * zac ((ps.drop i).map fun p=>cs.getD p 0):Nat):Int)
 | 0,_,_,_,_,h=>absurd h (qap _)
 | n+1,i,a,h1,h2,h3=>by
  unfold za0;rw[hx,zao];by_cases hi:i<ps.length
  ·have e2:a * zac ((ps.drop i).map fun p=>cs.getD p 0)=a * cs.getD ps[i] 0 * zac ((ps.drop (i+1)).map fun p=>cs.getD p 0):=by
    rw[qaG hi]; exact(qa4 _ _ _).symm
   rw[e2]at h2;have hb:ps[i]<cs.length:=hp _ (qat hi);have hq:1≤zac ((ps.drop (i+1)).map fun p=>cs.getD p 0):=zdj fun x hx=>by
    obtain⟨p,hp1,rfl⟩:=qaB.1 hx;exact hc p (qco hp1)
   have hle:a * cs.getD ps[i] 0≤65536:=qam (qaZ _ hq) h2;have he:cs[ps[i]]=cs.getD ps[i] 0:=by simp[hb]
   rw[zaz,decide_eq_true hi,cond_true,zbf hi,qaa,zbf hb,qaa,he,← qbg,zaH (by omega),zal (by omega),
    zlL hx hp hl hc n (i+1) _ hi h2 (by omega),e2]
  rw[zaz,decide_eq_false hi,cond_false,qbu (by omega)];simp[zac]
theorem zlb{y:Int×List Int}{zs:List Nat}(hy:y.2=iL zs)(hl:zs.length≤8):∀(n i r:Nat),i≤zs.length→(zs.drop i).sum≤r→r≤65536→zs.length - i<n →
  zaZ y n (r:Int) (i:Int)=some (.go ((r - (zs.drop i).sum:Nat):Int))
 | 0,_,_,_,_,_,h=>absurd h (qap _)
 | n+1,i,r,h1,h2,hr,h3=>by
  unfold zaZ;rw[hy,zao];by_cases hi:i<zs.length
  ·have e:(zs.drop i).sum=zs[i]+(zs.drop (i+1)).sum:=by rw[qaG hi,qc1]
   rw[e]at h2
   rw[zaz,decide_eq_true hi,cond_true,zbf hi,qaa,show decide (((zs[i]:Nat):Int)<0)=false from decide_eq_false (by omega),cond_false,qaa,
    show decide ((r:Int)<((zs[i]:Nat):Int))=false from decide_eq_false (by omega),cond_false,show((r:Int) - ((zs[i]:Nat):Int))=((r - zs[i]:Nat):Int) by omega,zaH (by omega),zal (by omega),
    zlb hy hl n (i+1) _ hi (by omega) (by omega) (by omega),e,Nat.sub_sub]
  rw[zaz,decide_eq_false hi,cond_false,qbu (by omega)];simp
theorem zlg{g c:Nat}{nw:S_net_network}{x:S_api_Node}(hg:nw.net.grain=(g:Int))(hg2:g≤60)(hc:x.zaD=(c:Int))(hc8:c≤8):∀(L:List (Int×List Int)),(∀ y∈L,∃ zs:List Nat,y.2=iL zs∧zs.length=c∧zs.sum=g)→
  zaM nw x L=some (.go ())
 | [],_=>rfl
 | y :: L,h=>by
  obtain⟨zs,h1,h2,h3⟩:=h y qao;unfold zaM;have e:=zlb h1 (by omega) (zs.length+2) 0 g (qaC _) (by rw[qby]; omega) (by omega) (by omega);rw[qby,h3,qdm,show((0:Nat):Int)=0 from rfl]at e;rw[hg,h1,zao,zaN,e,qaa];simp only[];rw[hc,h2,show((c:Int)==(c:Int))=true by simp,cond_true,qaa,show(!((0:Int)== 0))=false from rfl,cond_false];exact zlg hg hg2 hc hc8 L fun y hy=>h y (qaj _ hy)
theorem zr8{g:Nat}{cs:List Nat}{nodes:List S_api_Node}{sets order:List Int}{x:NN}(hg2:g≤60)(hp:Pl cs.length x.ps)(hl:x.ps.length≤8)(hc:∀ p∈x.ps,1≤cs.getD p 0)(hc8:x.c≤8)
  (hm:zac (x.ps.map fun p=>cs.getD p 0)≤65536) (hr:RowsOk g x.c (zac (x.ps.map fun p=>cs.getD p 0)) x.rows):zbj ⟨⟨(g:Int),nodes⟩,iL cs,sets,order⟩ (nd x)=some true:=by
 unfold zbj;have e:=zlL (x:=nd x) (nodes:=⟨(g:Int),nodes⟩) (sets:=sets) (order:=order) rfl hp hl hc (x.ps.length+2) 0 1 (qaC _) (by simpa using hm) (by omega);rw[show((0:Nat):Int)=0 from rfl,show((1:Nat):Int)=1 from rfl,qby,qba]at e;have hrl:(nd x).rows.length=x.rows.length:=by simp[nd]
 rw[show(nd x).parents=iL x.ps from rfl,zao,zaN,e,qaa,hrl,hr.len,show(((zac (x.ps.map fun p=>cs.getD p 0):Nat):Int)==((zac (x.ps.map fun p=>cs.getD p 0):Nat):Int))=true by simp,cond_true];unfold zgZ;rw[qaa];have hs:zhf (nd x).rows=some ():=by
  unfold zhf;rw[if_pos (by rw[hrl,hr.len]; omega)]
 rw[hs,qaa,zlg (g:=g) (c:=x.c) rfl hg2 rfl hc8,qaa];intro y hy;unfold zvd at hy;obtain⟨q,hq,rfl⟩:=qaB.1 hy;have hq1:q.1∈(nd x).rows:=by
  have:=List.mem_zipIdx' hq;rw[this.2]; exact qat _
 obtain⟨zs,hz,hz2⟩:=qaB.1 hq1;exact⟨zs,hz2.symm,hr.row zs hz⟩
theorem zje(cs:List Nat):∀(i:Nat) (h:i<cs.length),zac (cs.drop i)=cs[i] * zac (cs.drop (i+1)):=by
 intro i h;rw[qaG h]; rfl
theorem zvf{f:Fc}(hf:FcOk f){us:List Nat}(hs:Sel f us):∀(n i a:Nat),i≤us.length→us.length - i<n→a * zac ((cof f us).drop i)≤4096→1≤a →
  zaV (iL us) f.T n (a:Int) (i:Int) (iL ((cof f us).take i ++ List.replicate (us.length - i) 0))=some (((a * zac ((cof f us).drop i):Nat):Int),iL (cof f us))
 | 0,_,_,_,h,_,_=>absurd h (qap _)
 | n+1,i,a,hi,hn,ha,h1=>by
  have hl:=zny hf hs;have hcl:(cof f us).length=us.length:=by simp[cof]
  unfold zaV;rw[zao];rcases qa3 i us.length with h3 | h3
  ·have h3c:i<(cof f us).length:=by omega
   have hcc:=(zfR hf hs).zaD (cof f us)[i] (qat h3c);have hpos:0<zac ((cof f us).drop (i+1)):=zbD fun c hc=>(zfR hf hs).zaD c (qco hc)
   have e0:=zje (cof f us) i h3c;have ea:a * zac ((cof f us).drop i)=a * (cof f us)[i] * zac ((cof f us).drop (i+1)):=by rw[e0,qa4]
   have hle:a * (cof f us)[i]≤4096:=qam (qaZ _ hpos) (ea ▸ ha);have ih:=zvf hf hs n (i+1) (a * (cof f us)[i]) h3 (by omega) (ea ▸ ha) (qcS (by omega) (by omega));have ht:((cof f us).take i).length=i:=by simp; omega
   have e:List.replicate (us.length - i) 0=0 :: List.replicate (us.length - (i+1)) 0:=by
    rw[show us.length - i=(us.length - (i+1))+1 by omega,qa0]
   rw[qcn h3c,qbw,qbG]at ih;obtain⟨k,hk⟩:=zjS (hs.mem us[i] (qat h3));have ec:at_ f.vs f.cs us[i]=(cof f us)[i]:=by simp[cof]
   rw[zxR h3,cond_true,zbf h3,qaa,zlU hf,qaa,zdR,hk,show f.T.factor=f.D from rfl,zpD hf hk,qaa,ec,e,zdQ ht,qaa,zgc ht,qaa,← qbg,zaH (by omega),zal (by omega),ea];exact ih
  obtain rfl:i=us.length:=by omega
  rw[zx2,cond_false,qdm,qcT,qbi,qaW (by omega),qc3 (by omega),show zac ([]:List Nat)=1 from rfl,qc8]
theorem zhW{g:Nat→Nat}{p:Nat}:∀ {vs:List Nat} {v k:Nat},vs.Nodup→pos vs v=some k→(vs.map g).set k p=vs.map fun u=>bif v == u then p else g u
 | [],_,_,_,h=>by cases h
 | u :: us,v,k,hn,h=>by
  obtain⟨h1,h2⟩:=qbh.1 hn;rw[show pos (u :: us) v=bif u == v then some 0 else(pos us v).map (· + 1)from rfl]at h;cases hb:(u == v)with
  | true=>
   rw[hb,cond_true]at h;cases h;have:u=v:=by simpa using hb
   subst this;rw[qaL,qaL,qcE,beq_self_eq_true,cond_true];refine congrArg (p :: ·) (qbj fun x hx=>?_);rw[show(u == x)=false from beq_false_of_ne (fun e=>h1 (e ▸ hx)),cond_false]
  | false=>
   rw[hb,cond_false]at h;cases hp:pos us v with
   | none=>rw[hp]at h; cases h
   | some j=>
    rw[hp]at h;cases h;rw[qaL,qaL,qcF,zhW h2 hp,show(v == u)=false from beq_false_of_ne (fun e=>ne_of_beq_false hb e.symm),cond_false]
theorem zvR{f:Fc}(hf:FcOk f){us:List Nat}(hs:Sel f us):∀(k n:Nat),k≤us.length→k<n →
  zaF (iL us) f.T (iL (cof f us)) n ((zac ((cof f us).drop k):Nat):Int) ((k:Int) - 1) (iL (f.vs.map (stp (us.drop k) ((cof f us).drop k))))=some (iL (f.vs.map (stp us (cof f us))))
 | _,0,_,h=>absurd h (qap _)
 | 0,n+1,_,_=>by
  unfold zaF;rw[show decide ((0:Int)≤((0:Nat):Int) - 1)=false from rfl,cond_false,qby,qby]
 | k+1,n+1,hk,hn=>by
  have hl:=zny hf hs;have hD:=zfR hf hs;have hcl:(cof f us).length=us.length:=by simp[cof]
  have h3:k<us.length:=hk;have h3c:k<(cof f us).length:=by omega
  have ih:=zvR hf hs k n (by omega) (by omega);have e0:=zje (cof f us) k h3c;have hle:zac ((cof f us).drop k)≤4096:=qam (zgu (fun c hc=>(hD.zaD c hc).1) k) hD.prod;obtain⟨j,hj⟩:=zjS (hs.mem us[k] (qat h3));obtain⟨hj2,_⟩:=zcQ hj;have em:(f.vs.map (stp (us.drop (k+1)) ((cof f us).drop (k+1)))).set j (zac ((cof f us).drop (k+1)))=f.vs.map (stp (us.drop k) ((cof f us).drop k)):=by
   rw[zhW (za7 hf.inc) hj,qaG h3,qaG h3c];rfl
  unfold zaF;rw[pred_succ,zBO,cond_true,zbf h3,qaa,zlU hf,qaa,zdR,hj,show ixZ (some j)=(j:Int)from rfl,zfH (by simpa using hj2),qaa,zBj (by simpa using hj2),qaa,zbf h3c,qaa,← qbg,qaR,← e0,zaH (by omega),zgv (by omega) (by omega),em];exact ih
theorem zvt{f:Fc}(hf:FcOk f){us:List Nat}(hs:Sel f us){x:Int}:∀(m i:Nat) (l:List Nat),i+m=zac f.cs→l.length=zac (cof f us)→(∀ x∈l,x≤zdl)→
  ∃ z,zaU f.T x (zlx f.cs (f.vs.map (stp us (cof f us))) i m) (iL l)=some (match zhX false f us m i l with | some l'=>.go (iL l')| none=>.brk z)
 | 0,i,l,_,_,_=>⟨[],rfl⟩
 | m+1,i,l,h,hl,hb=>by
  have hi:i<zac f.cs:=by omega
  have hk:=zy4 hf hs hi;have hkl:ix f us i<l.length:=by omega
  have g1:=zwO hb (ix f us i);have g2:=Fc.zvY hf i;have e:=zxE (b:=false) g1 g2;rw[cond_false]at e;rw[zi6,zyP hf hs];have es:zeO ((l.getD (ix f us i) 0:Nat):Int) ((f.get i:Nat):Int)=some (((gop false (l.getD (ix f us i) 0) (f.get i):Nat):Int),decide (gop false (l.getD (ix f us i) 0) (f.get i)≤zdl)):=by
   unfold zeO;rw[e];refine congrArg (fun b:Bool=>some (((gop false (l.getD (ix f us i) 0) (f.get i):Nat):Int),b)) (decide_eq_decide.2 ⟨fun h=>?_,fun h=>?_⟩)
   ·show _≤4611686018427387903; omega
   have:_≤4611686018427387903:=h; omega
  have e1:∀ ys,zaU f.T x (((i:Int),((ix f us i:Nat):Int),iL (dig f.cs i)):: ys) (iL l)=bif decide (gop false (l.getD (ix f us i) 0) (f.get i)≤zdl)then zaU f.T x ys (iL (l.set (ix f us i) (gop false (l.getD (ix f us i) 0) (f.get i))))else some (.brk (iL (l.set (ix f us i) (gop false (l.getD (ix f us i) 0) (f.get i))))):=by
   intro ys;show(za3 (iL l) ((ix f us i:Nat):Int)).bind _=_;rw[zfH hkl,qaa];simp only[];rw[show za3 f.T.factor.w (i:Int)=some ((f.get i:Nat):Int)from zyJ hf hi,qaa,es,qaa];simp only[];rw[zBj hkl,qaa]
  rw[e1];unfold zhX;cases hd:decide (gop false (l.getD (ix f us i) 0) (f.get i)≤zdl)with
  | false=>exact⟨_,rfl⟩
  | true=>
   rw[cond_true,cond_true];refine zvt hf hs m (i+1) _ (by omega) (by rw[qaH]; exact hl) fun x hx=>?_
   rcases qbX hx with h1 | h1
   ·exact hb x h1
   rw[h1]; exact of_decide_eq_true hd
theorem zw4(f:Fc):f.vs.map (stp [] [])=List.replicate f.vs.length 0:=by
 rw[List.eq_replicate_iff];refine⟨by simp,fun x hx=>?_⟩;obtain⟨v,_,rfl⟩:=qaB.1 hx;simp[stp]
theorem zzD{f:Fc}(hf:FcOk f){us:List Nat}(hs:Sel f us)(v:Nat):stp us (cof f us) v≤4096:=by
 have hD:=zfR hf hs;rw[zkQ hD.len];cases hp:pos us v with
 | none=>exact qaC _
 | some k=>
  simp only;by_cases h:k<(zas (cof f us)).length
  ·rw[qah,qac h];exact zou (fun c hc=>(hD.zaD c hc).1) hD.prod _ (qat h)
  rw[qah,qaN (by omega)];exact qaC _
theorem zuv{f:Fc}(hf:FcOk f){us:List Nat}(hs:Sel f us):zbG f.T (iL us)=some (match gat false f us with | some l=>(⟨iL us,iL (cof f us),iL l⟩,0)| none=>(noF,6)):=by
 have hl:=zny hf hs;have hD:=zfR hf hs;have hp:=hD.prod;have hpf:=hf.prod;have hfl:=hf.le;have hfl2:=hf.len;have hcl:(cof f us).length=us.length:=by simp[cof]
 unfold zbG;have h1:=zvf hf hs (us.length+2) 0 1 (qaC _) (by omega) (by rw[qby]; omega) (qan _);rw[qbW,qbr,qcU,zhh,qby,qba]at h1;rw[zao,zdp (by omega),qaa,zaN,show zaV (iL us) f.T (us.length+2) 1 0 (List.replicate us.length 0)=_ from h1,qaa];simp only[];rw[zdp (by omega),qaa,show f.T.factor.vars=iL f.vs from rfl,zao,zdp (by omega),qaa,zgv (by omega) (by omega),show(((us.length:Int) - 1) - 0+2).toNat=us.length+1 by omega];have h2:=zvR hf hs us.length (us.length+1) (qan _) (by omega);rw[qb7,qc3 (by omega),zw4,zhh,show zac ([]:List Nat)=1 from rfl]at h2;rw[show zaF (iL us) f.T (iL (cof f us)) (us.length+1) 1 ((us.length:Int) - 1) (List.replicate f.vs.length 0)=_ from h2,qaa,zmt,qaa];simp only[];rw[show f.T.factor.zay=iL f.cs from rfl,zvc hf.zaD hf.le hf.prod (by rw[qaA,hf.len]) (fun s hs2=>by obtain⟨v,_,rfl⟩:=qaB.1 hs2; exact zzD hf hs v),qaa];obtain⟨z,h3⟩:=zvt hf hs (x:=((zac (cof f us):Nat):Int)) (zac f.cs) 0 (List.replicate (zac (cof f us)) 0) (by omega) (by simp) zoP;rw[← zhh,h3,qaa];unfold gat;cases zhX false f us (zac f.cs) 0 (List.replicate (zac (cof f us)) 0)<;> rfl
def rest(f:Fc)(v:Nat):List Nat:=f.vs.filter fun u=>!(u == v)
theorem zfX{f:Fc}(hf:FcOk f)(v:Nat):Sel f (rest f v):=⟨qbl _ hf.inc,fun u hu=>(qaJ.1 hu).1⟩
theorem znh{v:Nat}:∀ {vs:List Nat},v ∉ vs→vs.filter (fun u=>!(u == v))=vs:=fun {vs} h=>List.filter_eq_self.2 fun u hu=>by
 rw[show(u == v)=false from beq_false_of_ne (fun e=>h (e ▸ hu))]; rfl
theorem zm2:∀ {vs:List Nat} {v k:Nat},vs.Nodup→pos vs v=some k→vs.take k ++ vs.drop (k+1)=vs.filter fun u=>!(u == v)
 | [],_,_,_,h=>by cases h
 | u :: us,v,k,hn,h=>by
  obtain⟨h1,h2⟩:=qbh.1 hn;rw[show pos (u :: us) v=bif u == v then some 0 else(pos us v).map (· + 1)from rfl]at h;cases hb:(u == v)with
  | true=>
   rw[hb,cond_true]at h;cases h;have:u=v:=by simpa using hb
   subst this;rw[qcv (by simp),znh h1];rfl
  | false=>
   rw[hb,cond_false]at h;cases hp:pos us v with
   | none=>rw[hp]at h; cases h
   | some j=>
    rw[hp]at h;cases h;rw[qcw (by rw[hb]; rfl),← zm2 h2 hp];rfl
theorem zBb{xs:List Nat}{k:Nat}(h:k<xs.length)(hl:xs.length<1000):zx1 (iL xs) (k:Int) (w64 ((k:Int)+1))=some (iL (xs.take k ++ xs.drop (k+1))):=by
 rw[zal (by omega)];unfold zx1;rw[if_pos ⟨⟨by omega,by omega,by rw[zao]; omega⟩,by rw[zao]; omega⟩,qaK,qaK];simp[iL]
def zCi(o:Option (List Nat))(f:Fc)(us:List Nat):S_api_Factor×Int:=match o with
 | some l=>(⟨iL us,iL (cof f us),iL l⟩,0)
 | none=>(noF,6)
theorem zlG{f:Fc}(hf:FcOk f){v k:Nat}(hp:pos f.vs v=some k):ze3 8 (iL f.vs)=some (iL f.vs)∧zx1 (iL f.vs) (k:Int) (w64 ((k:Int)+1))=some (iL (rest f v)):=by
 have h1:=hf.le;have h2:=hf.len;obtain⟨hk,_⟩:=zcQ hp;refine⟨zhG (by rw[zao]; omega),?_⟩;rw[zBb hk (by omega),zm2 (za7 hf.inc) hp];rfl
theorem zAZ{f:Fc}(hf:FcOk f){v k:Nat}(hp:pos f.vs v=some k):zcI f.D (v:Int)=some (zCi (gat false f (rest f v)) f (rest f v)):=by
 obtain⟨h1,h2⟩:=zlG hf hp;unfold zcI zef;rw[zoL hf,qaa];simp only[];rw[show((0:Int)== 0)=true from rfl,cond_true,zlU hf,qaa,zdR,hp,show ixZ (some k)=(k:Int)from rfl,show decide ((k:Int)<0)=false from decide_eq_false (by omega),cond_false,show f.T.factor.vars=iL f.vs from rfl,h1,qaa,h2,qaa,zuv hf (zfX hf v),qaa];cases gat false f (rest f v)<;> rfl
def gF(f:Fc)(us l:List Nat):Fc:=⟨us,cof f us,l⟩
theorem zyr{f:Fc}(hf:FcOk f){us l:List Nat}(hs:Sel f us){b:Bool}(h:gat b f us=some l):FcOk (gF f us l):=by
 have hD:=zfR hf hs;exact⟨hD.len,hD.le,hD.zaD,hD.prod,(zmw h).trans (by simp[gF]),hs.inc,fun v hv=>hf.var v (hs.mem v hv),zoc zoP h⟩
def zgK:List Nat→Nat→Nat→Nat→Nat
 | [],_,_,i=>i
 | _ :: cs,0,p,i=>p * zac cs+i
 | _ :: cs,k+1,p,i=>(i / zac (cs.eraseIdx k))* zac cs+zgK cs k p (i % zac (cs.eraseIdx k))
theorem zd7{cs:List Nat}(h:∀ c∈cs,1≤c∧c≤8)(k:Nat):∀ c∈cs.eraseIdx k,1≤c∧c≤8:=fun c hc=>h c (List.mem_of_mem_eraseIdx hc)
theorem zk0:∀ {cs:List Nat} {k p i:Nat},(∀ c∈cs,1≤c∧c≤8)→(hk:k<cs.length)→p<cs[k]→i<zac (cs.eraseIdx k)→zgK cs k p i<zac cs
 | [],k,_,_,_,hk,_,_=>by simp at hk
 | c :: cs,0,p,i,_,_,hp,hi=>by
  have h1:(p+1)* zac cs≤c * zac cs:=qar _ hp;have h2:i<zac cs:=hi;show p * zac cs+i<c * zac cs;rw[qaI]at h1;omega
 | c :: cs,k+1,p,i,hc,hk,hp,hi=>by
  have hc2:=fun d hd=>hc d (qaj c hd)
  have hi2:i<c * zac (cs.eraseIdx k):=hi;have hq:0<zac (cs.eraseIdx k):=zbD (zd7 hc2 k);have h1:=zk0 hc2 (by simpa using hk) hp (qbc i hq);have h2:i / zac (cs.eraseIdx k)<c:=qbL (by rwa [qaR]);have h3:(i / zac (cs.eraseIdx k)+1)* zac cs≤c * zac cs:=qar _ h2;show i / zac (cs.eraseIdx k)* zac cs+zgK cs k p (i % zac (cs.eraseIdx k))<c * zac cs;rw[qaI]at h3;omega
theorem dm1{a b P:Nat}(h:b<P):(a * P+b) / P=a:=by
 rw[qbV,qck _ _ (by omega),qbP h,qaP]
theorem dm2{a b P:Nat}(h:b<P):(a * P+b) % P=b:=by
 rw[qbV,qbA,qa6 h]
theorem zkD:∀ {cs:List Nat} {k p i:Nat},(∀ c∈cs,1≤c∧c≤8)→(hk:k<cs.length)→p<cs[k]→i<zac (cs.eraseIdx k)→(dig cs (zgK cs k p i)).getD k 0=p∧(dig cs (zgK cs k p i)).eraseIdx k=dig (cs.eraseIdx k) i
 | [],k,_,_,_,hk,_,_=>by simp at hk
 | c :: cs,0,p,i,_,_,hp,hi=>by
  have hi2:i<zac cs:=hi;rw[show dig (c :: cs) (zgK (c :: cs) 0 p i)=(p * zac cs+i) / zac cs :: dig cs ((p * zac cs+i) % zac cs)from rfl,dm1 hi2,dm2 hi2];exact⟨rfl,rfl⟩
 | c :: cs,k+1,p,i,hc,hk,hp,hi=>by
  have hc2:=fun d hd=>hc d (qaj c hd)
  have hq:0<zac (cs.eraseIdx k):=zbD (zd7 hc2 k);have h1:=zk0 hc2 (by simpa using hk) hp (qbc i hq);obtain⟨h2,h3⟩:=zkD hc2 (by simpa using hk) hp (qbc i hq);rw[show dig (c :: cs) (zgK (c :: cs) (k+1) p i)=(i / zac (cs.eraseIdx k)* zac cs+zgK cs k p (i % zac (cs.eraseIdx k))) / zac cs :: dig cs ((i / zac (cs.eraseIdx k)* zac cs+zgK cs k p (i % zac (cs.eraseIdx k))) % zac cs)from rfl,dm1 h1,dm2 h1];refine⟨by rw[List.getD_cons_succ]; exact h2,?_⟩;rw[qc2,h3];rfl
theorem zoo:∀ {cs:List Nat} {k p j:Nat},(∀ c∈cs,1≤c∧c≤8)→(hk:k<cs.length)→j<zac cs→(dig cs j).getD k 0=p→∃ i,i<zac (cs.eraseIdx k)∧zgK cs k p i=j
 | [],k,_,_,_,hk,_,_=>by simp at hk
 | c :: cs,0,p,j,hc,_,hj,hd=>by
  have hp:0<zac cs:=zbD fun d hd=>hc d (qaj c hd)
  have e:j / zac cs=p:=hd;refine⟨j % zac cs,qbc _ hp,?_⟩;show p * zac cs+j % zac cs=j;rw[← e,qaR,qb3]
 | c :: cs,k+1,p,j,hc,hk,hj,hd=>by
  have hc2:=fun d hd=>hc d (qaj c hd)
  have hp:0<zac cs:=zbD hc2;have hj2:j<c * zac cs:=hj;have e:(dig cs (j % zac cs)).getD k 0=p:=by rw[← hd]; rfl
  obtain⟨i,h1,h2⟩:=zoo hc2 (by simpa using hk) (qbc _ hp) e;have ha:j / zac cs<c:=qbL (by rwa [qaR]);refine⟨j / zac cs * zac (cs.eraseIdx k)+i,?_,?_⟩
  ·show _<c * zac (cs.eraseIdx k);have h3:(j / zac cs+1)* zac (cs.eraseIdx k)≤c * zac (cs.eraseIdx k):=qar _ ha;rw[qaI]at h3;omega
  show(j / zac cs * zac (cs.eraseIdx k)+i) / zac (cs.eraseIdx k)* zac cs+zgK cs k p ((j / zac cs * zac (cs.eraseIdx k)+i) % zac (cs.eraseIdx k))=j;rw[dm1 h1,dm2 h1,h2,qaR,qb3]
theorem zoY:∀ {cs:List Nat} {k p i:Nat},(∀ c∈cs,1≤c∧c≤8)→(hk:k<cs.length)→i<zac (cs.eraseIdx k)→dot (dig (cs.eraseIdx k) i) ((zas cs).eraseIdx k)+p * (zas cs).getD k 0=zgK cs k p i
 | [],k,_,_,_,hk,_=>by simp at hk
 | c :: cs,0,p,i,hc,_,hi=>by
  have h:dot (dig cs i) (zas cs)=i:=zg7 (fun d hd=>hc d (qaj c hd)) hi;show dot (dig cs i) (zas cs)+p * zac cs=p * zac cs+i;omega
 | c :: cs,k+1,p,i,hc,hk,hi=>by
  have hc2:=fun d hd=>hc d (qaj c hd)
  have hq:0<zac (cs.eraseIdx k):=zbD (zd7 hc2 k);have ih:=zoY (p:=p) hc2 (show k<cs.length by simpa using hk) (qbc i hq);rw[qc2,show zas (c :: cs)=zac cs :: zas cs from rfl,qc2,List.getD_cons_succ];show i / zac (cs.eraseIdx k)* zac cs+dot (dig (cs.eraseIdx k) (i % zac (cs.eraseIdx k))) ((zas cs).eraseIdx k)+p * (zas cs).getD k 0=i / zac (cs.eraseIdx k)* zac cs+zgK cs k p (i % zac (cs.eraseIdx k));omega
theorem zwT{us cs:List Nat}(hn:us.Nodup)(hl:us.length=cs.length):us.map (stp us cs)=zas cs:=by
 refine qb8 (by rw[qaA,zfm,hl]) fun i h1 h2=>?_
 have hi:i<us.length:=by simpa using h1
 have hp:∀ {xs:List Nat} {i:Nat} (hn:xs.Nodup) (h:i<xs.length),pos xs xs[i]=some i:=by
  intro xs;induction xs with
  | nil=>intro i _ h; simp at h
  | cons x xs ih=>
   intro i hn h;obtain⟨h1,h2⟩:=qbh.1 hn;cases i with
   | zero=>rw[show(x :: xs)[0]=x from rfl,show pos (x :: xs) x=bif x == x then some 0 else(pos xs x).map (· + 1)from rfl,beq_self_eq_true,cond_true]
   | succ i=>
    have hi:i<xs.length:=by simpa using h
    rw[show(x :: xs)[i+1]=xs[i]from rfl,show pos (x :: xs) xs[i]=bif x == xs[i]then some 0 else(pos xs xs[i]).map (· + 1)from rfl,show(x == xs[i])=false from beq_false_of_ne (fun e=>h1 (e ▸ qat hi)),cond_false,ih h2 hi];rfl
 rw[qdf,zkQ hl,hp hn hi];simp only;rw[qah,qac h2];rfl
theorem erase_eq{α:Type}(xs:List α)(k:Nat):xs.take k ++ xs.drop (k+1)=xs.eraseIdx k:=(List.eraseIdx_eq_take_drop_succ xs k).symm
theorem zfb{α β:Type}(g:α→β)(xs:List α)(k:Nat):(xs.eraseIdx k).map g=(xs.map g).eraseIdx k:=by
 rw[← erase_eq,← erase_eq,qb2,List.map_take,List.map_drop]
theorem ziI{f:Fc}(hf:FcOk f){v k:Nat}(hp:pos f.vs v=some k):rest f v=f.vs.eraseIdx k:=by
 rw[← erase_eq,zm2 (za7 hf.inc) hp]; rfl
theorem zf7{f:Fc}(hf:FcOk f){v k:Nat}(hp:pos f.vs v=some k):cof f (rest f v)=f.cs.eraseIdx k:=by
 unfold cof;rw[ziI hf hp,zfb,zmE (za7 hf.inc) hf.len]
theorem zjp:∀ {cs:List Nat} {k:Nat} (h:k<cs.length),zac cs=cs[k] * zac (cs.eraseIdx k)
 | [],_,h=>by simp at h
 | c :: cs,0,_=>rfl
 | c :: cs,k+1,h=>by
  have hk:k<cs.length:=by simpa using h
  have ih:=zjp hk;show c * zac cs=cs[k] * (c * zac (cs.eraseIdx k));rw[ih,qcK]
def fixF(f:Fc)(v k p:Nat):Fc:=⟨rest f v,f.cs.eraseIdx k,(List.range' 0 (zac (f.cs.eraseIdx k))).map fun j=>f.get (zgK f.cs k p j)⟩
theorem zvz{f:Fc}(hf:FcOk f){k p:Nat}{q:Int}(hk:k<f.cs.length)(hp:p<f.cs[k]):∀(m i:Nat) (ys:List Nat),i+m=zac (f.cs.eraseIdx k)→ys.length=i →
  zds (f.T,0) (k:Int) (p:Int) q (zlx (f.cs.eraseIdx k) ((zas f.cs).eraseIdx k) i m) (iL (ys ++ List.replicate m 0))=some (iL (ys ++ (List.range' i m).map fun j=>f.get (zgK f.cs k p j)))
 | 0,i,ys,_,_=>by simp[zlx,zds]
 | m+1,i,ys,h,hy=>by
  have hi:i<zac (f.cs.eraseIdx k):=by omega
  have hpf:=hf.prod;have h1:=zk0 hf.zaD hk hp hi;have h2:=zoY (p:=p) hf.zaD hk hi;have hks:k<(zas f.cs).length:=by rw[zfm]; exact hk
  rw[zi6];show(za3 (iL (zas f.cs)) (k:Int)).bind _=_;rw[zfH hks,qaa];simp only[];rw[← qbg,zaH (by omega),← qcZ,h2,zaH (by omega),show za3 (f.T,(0:Int)).1.factor.w ((zgK f.cs k p i:Nat):Int)=some ((f.get (zgK f.cs k p i):Nat):Int)from zyJ hf h1,qaa];rw[qa0,zdQ hy,qaa,zgc hy,qaa,show ys ++ f.get (zgK f.cs k p i):: List.replicate m 0=(ys ++ [f.get (zgK f.cs k p i)])++ List.replicate m 0 by simp,zvz hf hk hp m (i+1) _ (by omega) (by simp[hy]),qcy,qaL,qbw,qbG]
theorem zw3{f:Fc}(hf:FcOk f){v k p:Nat}(hv:pos f.vs v=some k)(hk:k<f.cs.length)(hp:p<f.cs[k]):zdO f.D (v:Int) (p:Int)=some ((fixF f v k p).D,0):=by
 have hl:=hf.le;have hpf:=hf.prod;have hck:=hf.zaD f.cs[k] (qat hk);have e0:=zjp hk;have hE:zac (f.cs.eraseIdx k)≤zac f.cs:=by rw[e0]; exact qcC _ (by omega)
 obtain⟨h1,h2⟩:=zlG hf hv;have hn:=za7 hf.inc;have hrl:(rest f v).length≤100:=by
  have:=(List.length_filter_le (fun u=>!(u == v)) f.vs); have:=hf.len; unfold rest; omega
 have hel:(f.cs.eraseIdx k).length≤12:=qam (List.eraseIdx_sublist _ _).length_le hl;unfold zdO;rw[zoL hf,qaa];simp only[]
 rw[show((0:Int)== 0)=true from rfl,cond_true,zlU hf,qaa,zdR,hv,show ixZ (some k)=(k:Int)from rfl,show decide ((k:Int)<0)=false from decide_eq_false (by omega),cond_false,show decide ((p:Int)<0)=false from decide_eq_false (by omega),cond_false,show f.T.factor.zay=iL f.cs from rfl,zbf hk,qaa,show decide (((f.cs[k]:Nat):Int)≤(p:Int))=false from decide_eq_false (by omega),qaa,cond_false,show f.T.factor.vars=iL f.vs from rfl,h1,qaa,h2,qaa,zhG (by rw[zao]; omega),qaa,zBb hk (by omega),erase_eq,qaa,qaa,show f.T.factor.w=iL f.ws from rfl,zao,hf.size,zAb (by omega) (by show _≤4611686018427387903; omega),qaa,
  show zac f.cs / f.cs[k]=zac (f.cs.eraseIdx k) by rw[e0,Nat.mul_div_cancel_left _ (by omega)],zdp (by omega),qaa,zxG hf hrl,qaa,zmt,qaa]
 simp only[];have es:(rest f v).map (stp f.vs f.cs)=(zas f.cs).eraseIdx k:=by rw[ziI hf hv,zfb,zwT hn hf.len]
 rw[es,zvc (zd7 hf.zaD k) hel (by omega) (by rw[List.length_eraseIdx,List.length_eraseIdx,zfm]) (fun s hs=>zou (fun c hc=>(hf.zaD c hc).1) hf.prod s (List.mem_of_mem_eraseIdx hs)),qaa];have e2:=zvz hf (q:=((zac (f.cs.eraseIdx k):Nat):Int)) hk hp (zac (f.cs.eraseIdx k)) 0 [] (by omega) rfl;rw[qbr]at e2;rw[← zhh,e2,qaa];rfl
theorem zw9{f:Fc}(hf:FcOk f){v k:Nat}(hv:pos f.vs v=some k)(hk:k<f.cs.length)(p:Nat):FcOk (fixF f v k p):=by
 have hs:=zfX hf v;have hD:=zfR hf hs;rw[zf7 hf hv]at hD;refine⟨hD.len,hD.le,hD.zaD,hD.prod,by simp[fixF],hs.inc,fun u hu=>hf.var u (hs.mem u hu),fun w hw=>?_⟩;obtain⟨j,_,rfl⟩:=qaB.1 hw;exact Fc.zvY hf _
section
variable {p1 p2 p4:Int} {x9:S_api_Factor}
end
section
variable {p1 p2 p4:Int} {x y:S_api_Factor}
end
section
variable {x:S_api_Factor} {p3:Int}
end
section
variable {y4 l1:List Int} {x:S_api_Factor}
end
section
variable {r6 r8:S_api_Factor} {p3:Int} {y4:List Int}
end
def Fc.val(f:Fc)(s:Nat→Nat):Nat:=f.get (dot (f.vs.map s) (zas f.cs))
theorem zvJ(f:Fc)(u ds:List Nat):f.at u ds=f.val (at_ u ds):=rfl
def Fit(f:Fc)(s:Nat→Nat):Prop:=∀ v∈f.vs,s v<at_ f.vs f.cs v
theorem zix{s:Nat→Nat}:∀ {us cs:List Nat},us.length=cs.length→us.Nodup→(∀ c∈cs,1≤c∧c≤8)→(∀ v∈us,s v<at_ us cs v)→zb8 cs (us.map s)
 | [],[],_,_,_,_=>trivial
 | [],c :: cs,h,_,_,_=>by simp at h
 | u :: us,[],h,_,_,_=>by simp at h
 | u :: us,c :: cs,hl,hn,hc,h=>by
  obtain⟨h1,h2⟩:=qbh.1 hn;have hu:=h u qao;rw[zes,beq_self_eq_true,cond_true]at hu;refine⟨hu,(hc c qao).2,zix (by simpa using hl) h2 (fun d hd=>hc d (qaj _ hd)) fun v hv=>?_⟩;have:=h v (qaj _ hv)
  rwa [zes,show(u == v)=false from beq_false_of_ne (fun e=>h1 (e ▸ hv)),cond_false]at this
theorem Fit.below{f:Fc}(hf:FcOk f){s:Nat→Nat}(h:Fit f s):zb8 f.cs (f.vs.map s):=zix hf.len (za7 hf.inc) hf.zaD h
theorem ztf{f:Fc}(hf:FcOk f){i:Nat}(hi:i<zac f.cs):f.val (at_ f.vs (dig f.cs i))=f.get i:=by
 unfold Fc.val;rw[zmE (za7 hf.inc) (by rw[zey,hf.len]),zg7 hf.zaD hi]
theorem val_congr{f:Fc}{s t:Nat→Nat}(h:∀ v∈f.vs,s v=t v):f.val s=f.val t:=by
 unfold Fc.val;rw[qbj h]
theorem get_map{n:Nat}{g:Nat→Nat}{i:Nat}(h:i<n):((List.range' 0 n).map g).getD i 0=g i:=by
 rw[qah,qac (by simpa using h)];simp
theorem ziu{f g:Fc}(hf:FcOk f)(hg:FcOk g)(hc:zb2 (iL (ucs f g))=true){s:Nat→Nat}(hs:Fit (zqu f g) s):(zqu f g).val s=f.val s * g.val s:=by
 have hD:=zqZ hc;have hb:zb8 (ucs f g) ((uni f g).map s):=zix hD.len hD.nodup hD.zaD hs;have hlt:=zi8 hb;show((List.range' 0 (zac (ucs f g))).map fun j=>f.at (uni f g) (dig (ucs f g) j)* g.at (uni f g) (dig (ucs f g) j)).getD (dot ((uni f g).map s) (zas (ucs f g))) 0=_;rw[get_map hlt,zjZ hb,zvJ,zvJ];rw[val_congr (f:=f) (t:=s) fun v hv=>zgj ((zfO hf hg).2 (.inl hv)),val_congr (f:=g) (t:=s) fun v hv=>zgj ((zfO hf hg).2 (.inr hv))]
def big(b:Bool)(xs:List Nat):Nat:=xs.foldr (gop b) 0
theorem zsL(b:Bool)(x y z:Nat):gop b (gop b x y) z=gop b x (gop b y z):=by
 cases b
 ·exact qbp x y z
 exact Nat.max_assoc x y z
theorem ztU(b:Bool)(x y:Nat):gop b x y=gop b y x:=by
 cases b
 ·exact qbV x y
 exact Nat.max_comm x y
theorem zoZ(b:Bool)(x:Nat):gop b x 0=x:=by
 cases b
 ·rfl
 exact Nat.max_zero x
theorem zu7(b:Bool)(x:Nat):gop b 0 x=x:=by rw[ztU,zoZ]
theorem zkC(b:Bool)(x:Nat)(xs:List Nat):big b (x :: xs)=gop b x (big b xs):=rfl
theorem zro{b:Bool}{M:Nat}:∀ {xs:List Nat},(∀ x∈xs,x≤M)→big b xs≤xs.length * M
 | [],_=>by simp[big]
 | x :: xs,h=>by
  have h1:=h x qao;have h2:=zro (b:=b) fun y hy=>h y (qaj x hy)
  rw[zkC,qaS,qaI,qba];cases b
  ·show x+big false xs≤_; omega
  show max x (big true xs)≤_; omega
def fib(f:Fc)(us:List Nat)(m i j:Nat):List Nat:=((List.range' i m).filter fun i=>ix f us i == j).map f.get
theorem zux(f:Fc)(us:List Nat)(m i j:Nat):fib f us (m+1) i j=bif ix f us i == j then f.get i :: fib f us m (i+1) j else fib f us m (i+1) j:=by
 unfold fib;rw[qcy];cases hb:(ix f us i == j)with
 | true=>rw[qcw (p:=fun i=>ix f us i == j) hb,qaL,cond_true]
 | false=>rw[qcv (p:=fun i=>ix f us i == j) (by rw[hb]; decide),cond_false]
theorem zjd{b:Bool}{f:Fc}{us:List Nat}{M:Nat}(hM:∀ i,f.get i≤M):∀ {m i K:Nat} {l:List Nat},(∀ j,l.getD j 0≤K)→K+m * M≤zdl→(∀ k,i≤k→k<i+m→ix f us k<l.length)→
  ∃ l',zhX b f us m i l=some l'∧l'.length=l.length∧∀ j,j<l.length→l'.getD j 0=gop b (l.getD j 0) (big b (fib f us m i j))
 | 0,i,K,l,_,_,_=>⟨l,rfl,rfl,fun j _=>by
   rw[show fib f us 0 i j=[]from rfl]
   exact(zoZ b _).symm⟩
 | m+1,i,K,l,hl,hK,hx=>by
  have hi:=hx i (qan _) (by omega);have h1:=hl (ix f us i);have h2:=hM i;rw[qaI,qba]at hK;have h3:gop b (l.getD (ix f us i) 0) (f.get i)≤K+M:=by
   cases b
   ·show _+_≤_; omega
   show max _ _≤_; omega
  have hset:∀ j,(l.set (ix f us i) (gop b (l.getD (ix f us i) 0) (f.get i))).getD j 0=bif ix f us i == j then gop b (l.getD (ix f us i) 0) (f.get i)else l.getD j 0:=by
   intro j;by_cases e:ix f us i=j
   ·subst e;rw[beq_self_eq_true,cond_true,qah,qaD hi];rfl
   rw[beq_false_of_ne e,cond_false,qah,qaq e,← qah]
  obtain⟨l',g1,g2,g3⟩:=zjd (b:=b) (us:=us) hM (m:=m) (i:=i+1) (K:=K+M) (l:=l.set (ix f us i) (gop b (l.getD (ix f us i) 0) (f.get i))) (fun j=>by
   rw[hset];cases(ix f us i == j)
   ·rw[cond_false]; have:=hl j; omega
   rw[cond_true]; exact h3) (by omega) (fun k a c=>by rw[qaH]; exact hx k (by omega) (by omega))
  refine⟨l',?_,by rw[g2,qaH],fun j hj=>?_⟩
  ·unfold zhX;rw[decide_eq_true (show gop b (l.getD (ix f us i) 0) (f.get i)≤zdl by omega),cond_true];exact g1
  rw[g3 j (by rw[qaH]; exact hj),hset,zux];cases hb:(ix f us i == j)with
  | false=>rw[cond_false,cond_false]
  | true=>
   rw[cond_true,cond_true,zkC,zsL,beq_iff_eq.1 hb]
theorem zkr(b:Bool){f:Fc}(hf:FcOk f){us:List Nat}(hs:Sel f us){M:Nat}(hM:∀ i,f.get i≤M)(hB:zac f.cs * M≤zdl):
  gat b f us=some ((List.range' 0 (zac (cof f us))).map fun j=>big b (fib f us (zac f.cs) 0 j)):=by
 obtain⟨l',g1,g2,g3⟩:=zjd (b:=b) (us:=us) hM (m:=zac f.cs) (i:=0) (K:=0) (l:=List.replicate (zac (cof f us)) 0) (fun j=>by
  rw[qah,qcx]
  split<;>exact qan _) (by omega) (fun k _ hk=>by rw[qdb]; exact zy4 hf hs (by omega))
 unfold gat;rw[g1];refine congrArg some (qb8 (by rw[g2]; simp) fun j a c=>?_);have hj:j<zac (cof f us):=by simpa using c
 have e:=g3 j (by simpa using hj);rw[qah,qac a,qah,qcx,if_pos hj]at e;simp only[qbd]at e;rw[zu7]at e;rw[e];simp
def upd(s:Nat→Nat)(v p:Nat)(u:Nat):Nat:=bif u == v then p else s u
theorem zfk(s:Nat→Nat)(v p:Nat):upd s v p v=p:=by unfold upd; rw[beq_self_eq_true,cond_true]
theorem ziE{s:Nat→Nat}{v p u:Nat}(h:u≠v):upd s v p u=s u:=by unfold upd; rw[beq_false_of_ne h,cond_false]
theorem zxv{f:Fc}{v u:Nat}(h:u∈rest f v):u≠v:=by
 have:=(qaJ.1 h).2;intro e;rw[e,beq_self_eq_true]at this;cases this
theorem zge{f:Fc}(hf:FcOk f){v k:Nat}(hv:pos f.vs v=some k)(s:Nat→Nat)(p:Nat):(f.vs.map (upd s v p)).eraseIdx k=(rest f v).map s:=by
 rw[← zfb,← ziI hf hv];exact qbj fun u hu=>ziE (zxv hu)
theorem zll{cs:List Nat}{k:Nat}(hc:∀ c∈cs,1≤c∧c≤8){i:Nat}(h:i<zac (cs.eraseIdx k)):dot (dig (cs.eraseIdx k) i) (zas (cs.eraseIdx k))=i:=zg7 (zd7 hc k) h
theorem zn4{cs ds:List Nat}{k p:Nat}(hc:∀ c∈cs,1≤c∧c≤8)(hk:k<cs.length)(hp:p<cs[k])(hb:zb8 cs ds)(hd:ds.getD k 0=p):zgK cs k p (dot (ds.eraseIdx k) (zas (cs.eraseIdx k)))=dot ds (zas cs)∧dot (ds.eraseIdx k) (zas (cs.eraseIdx k))<zac (cs.eraseIdx k):=by
 have hlt:=zi8 hb;have hdig:=zjZ hb;obtain⟨j,h1,h2⟩:=zoo hc hk hlt (p:=p) (by rw[hdig]; exact hd);have h3:=(zkD hc hk hp h1).2;rw[h2,hdig]at h3;rw[h3,zll hc h1];exact⟨h2,h1⟩
theorem zoq{f:Fc}{v k:Nat}(hv:pos f.vs v=some k)(s:Nat→Nat)(p:Nat):(f.vs.map (upd s v p)).getD k 0=p:=by
 obtain⟨hk,e⟩:=zcQ hv;rw[qah,qac (by simpa using hk)];simp only[qdf,e,zfk,qbd]
theorem zj3{f:Fc}(hf:FcOk f){v k:Nat}(hv:pos f.vs v=some k)(hk:k<f.cs.length):at_ f.vs f.cs v=f.cs[k]:=by
 rw[zsB hv,qah,qac hk];rfl
theorem zrA{f:Fc}(hf:FcOk f){v k p:Nat}(hv:pos f.vs v=some k)(hk:k<f.cs.length)(hp:p<f.cs[k]){s:Nat→Nat}(hs:∀ u∈rest f v,s u<at_ f.vs f.cs u):Fit f (upd s v p):=by
 intro u hu;by_cases e:u=v
 ·subst e;rw[zfk,zj3 hf hv hk];exact hp
 rw[ziE e];exact hs u (qaJ.2 ⟨hu,by rw[beq_false_of_ne e]; rfl⟩)
theorem zhR{f:Fc}(hf:FcOk f){v k p:Nat}(hv:pos f.vs v=some k)(hk:k<f.cs.length)(hp:p<f.cs[k]){s:Nat→Nat}(hs:∀ u∈rest f v,s u<at_ f.vs f.cs u):(fixF f v k p).val s=f.val (upd s v p):=by
 have hb:=(zrA hf hv hk hp hs).below hf;obtain⟨h1,h2⟩:=zn4 hf.zaD hk hp hb (zoq hv s p);rw[zge hf hv]at h1 h2;show((List.range' 0 (zac (f.cs.eraseIdx k))).map fun j=>f.get (zgK f.cs k p j)).getD (dot ((rest f v).map s) (zas (f.cs.eraseIdx k))) 0=_;rw[get_map h2,h1];rfl
theorem zjr:∀ {cs:List Nat} {k p q i:Nat},(∀ c∈cs,1≤c∧c≤8)→k<cs.length→p<q→zgK cs k p i<zgK cs k q i
 | [],k,_,_,_,_,hk,_=>by simp at hk
 | c :: cs,0,p,q,i,hc,_,h=>by
  have hp:0<zac cs:=zbD fun d hd=>hc d (qaj c hd)
  have:=Nat.mul_lt_mul_of_pos_right h hp;show p * zac cs+i<q * zac cs+i;omega
 | c :: cs,k+1,p,q,i,hc,hk,h=>by
  have:=zjr (i:=i % zac (cs.eraseIdx k)) (fun d hd=>hc d (qaj c hd)) (show k<cs.length by simpa using hk) h;show i / zac (cs.eraseIdx k)* zac cs+zgK cs k p (i % zac (cs.eraseIdx k))<i / zac (cs.eraseIdx k)* zac cs+zgK cs k q (i % zac (cs.eraseIdx k));omega
theorem zs4{f:Fc}(hf:FcOk f){v k:Nat}(hv:pos f.vs v=some k){i:Nat}:ix f (rest f v) i=dot ((dig f.cs i).eraseIdx k) (zas (f.cs.eraseIdx k)):=by
 unfold ix;rw[zf7 hf hv,ziI hf hv,zfb,zmE (za7 hf.inc) (by rw[zey,hf.len])]
theorem zo5{f:Fc}(hf:FcOk f){v k:Nat}(hv:pos f.vs v=some k)(hk:k<f.cs.length){j:Nat}(hj:j<zac (f.cs.eraseIdx k)):fib f (rest f v) (zac f.cs) 0 j=(List.range' 0 f.cs[k]).map fun p=>f.get (zgK f.cs k p j):=by
 have e:((List.range' 0 (zac f.cs)).filter fun i=>ix f (rest f v) i == j)=(List.range' 0 f.cs[k]).map fun p=>zgK f.cs k p j:=by
  refine zgS (qbl _ qc0) (List.pairwise_map.2 (List.Pairwise.imp (fun h=>zjr hf.zaD hk h) qc0)) fun x=>?_
  simp only[qaJ,qcJ,qaB,beq_iff_eq];constructor
  ·rintro⟨⟨_,h1⟩,h2⟩;have hx:x<zac f.cs:=by omega
   have hb:=zgp hf.zaD hx;have hp:(dig f.cs x).getD k 0<f.cs[k]:=by
    have hkd:k<(dig f.cs x).length:=by rw[zey]; exact hk
    have hm:f.vs[k]'(by rw[hf.len]; exact hk)∈f.vs:=qat _;have h3:=(zkt hf.len hb hm).1;rw[zof (za7 hf.inc) (by rw[hf.len]; exact hk),zof (za7 hf.inc) (by rw[hf.len]; exact hk)]at h3
    rwa [qah (l:=f.cs),qac hk]at h3
   refine⟨(dig f.cs x).getD k 0,⟨qaC _,by omega⟩,?_⟩;obtain⟨h3,_⟩:=zn4 hf.zaD hk hp hb rfl;rw[zs4 hf hv]at h2;rw[h2,zg7 hf.zaD hx]at h3;exact h3
  rintro⟨p,⟨_,h1⟩,rfl⟩;have hp:p<f.cs[k]:=by omega
  refine⟨⟨qaC _,by have:=zk0 hf.zaD hk hp hj; omega⟩,?_⟩;rw[zs4 hf hv,(zkD hf.zaD hk hp hj).2,zll hf.zaD hj]
 unfold fib;rw[e,qdk];rfl
theorem zn3(b:Bool){f:Fc}(hf:FcOk f){v k:Nat}(hv:pos f.vs v=some k)(hk:k<f.cs.length){l:List Nat}{M:Nat}(hM:∀ i,f.get i≤M)(hB:zac f.cs * M≤zdl)(hg:gat b f (rest f v)=some l){s:Nat→Nat}(hs:∀ u∈rest f v,s u<at_ f.vs f.cs u):
  (gF f (rest f v) l).val s=big b ((List.range' 0 f.cs[k]).map fun p=>f.val (upd s v p)):=by
 have h0:=zkr b hf (zfX hf v) hM hB;rw[hg,zf7 hf hv]at h0;have hl:=qae h0;have hc0:0<f.cs[k]:=(hf.zaD _ (qat hk)).1;have key:∀ p,p<f.cs[k]→zgK f.cs k p (dot ((rest f v).map s) (zas (f.cs.eraseIdx k)))=dot (f.vs.map (upd s v p)) (zas f.cs)∧dot ((rest f v).map s) (zas (f.cs.eraseIdx k))<zac (f.cs.eraseIdx k):=by
  intro p hp;have h:=zn4 hf.zaD hk hp ((zrA hf hv hk hp hs).below hf) (zoq hv s p);rw[zge hf hv]at h;exact h
 have hj:=(key 0 hc0).2;show l.getD (dot ((rest f v).map s) (zas (cof f (rest f v)))) 0=_;rw[zf7 hf hv,hl,get_map hj,zo5 hf hv hk hj];congr 1
 refine qbj fun p hp=>?_
 have:=qcJ.1 hp;rw[(key p (by omega)).1];rfl
structure Std (f:Fc) (M:Nat):Prop where
 ok:FcOk f
 cs:f.cs=f.vs.map zgR
 var:∀ v∈f.vs,v<5
 le:∀ i,f.get i≤M
def zz2(s:Nat→Nat):Prop:=∀ v,v<5→s v<zgR v
theorem zua:∀ v,v<5→1≤zgR v∧zgR v≤8:=by decide
theorem zuY:[0,1,2,3,4].Pairwise (· < ·):=by decide
theorem zuS{v:Nat}(h:v<5):v∈[0,1,2,3,4]:=by
 have:∀ v,v<5→v∈[0,1,2,3,4]:=by decide
 exact this v h
theorem zk9{vs:List Nat}(hi:vs.Pairwise (· < ·))(hv:∀ v∈vs,v<5):zac (vs.map zgR)≤24∧vs.length≤5:=by
 have hs:=ziD hi zuY fun v h=>zuS (hv v h)
 refine⟨?_,hs.length_le⟩;have:=zhM (hs.map zgR) (by decide);exact this
theorem zrM{vs:List Nat}(hv:∀ v∈vs,v<5):∀ c∈vs.map zgR,1≤c∧c≤8:=by
 intro c hc;obtain⟨v,h,rfl⟩:=qaB.1 hc;exact zua v (hv v h)
theorem zpz{vs:List Nat}(hi:vs.Pairwise (· < ·))(hv:∀ v∈vs,v<5):zb2 (iL (vs.map zgR))=true:=by
 obtain⟨h1,h2⟩:=zk9 hi hv;unfold zb2;rw[zao,qaA,decide_eq_true (by omega),qbF];exact zgn (zrM hv) (by omega)
theorem Std.at{f:Fc}{M:Nat}(h:Std f M){v:Nat}(hv:v∈f.vs):at_ f.vs f.cs v=zgR v:=by rw[h.cs,zgj hv]
theorem Std.prod{f:Fc}{M:Nat}(h:Std f M):zac f.cs≤24:=by rw[h.cs]; exact(zk9 h.ok.inc h.var).1
theorem Std.mono{f:Fc}{M N:Nat}(h:Std f M)(hl:M≤N):Std f N:=⟨h.ok,h.cs,h.var,fun i=>qam (h.le i) hl⟩
theorem Std.agr{f g:Fc}{M N:Nat}(hf:Std f M)(hg:Std g N):Agr f g:=fun v h1 h2=>by rw[hf.at h1,hg.at h2]
theorem Std.fit{f:Fc}{M:Nat}(h:Std f M){s:Nat→Nat}(hs:zz2 s):Fit f s:=fun v hv=>by rw[h.at hv]; exact hs v (h.var v hv)
theorem Std.zaD{f:Fc}{M:Nat}(h:Std f M){v k:Nat}(hv:pos f.vs v=some k)(hk:k<f.cs.length):f.cs[k]=zgR v:=by
 obtain⟨h1,e⟩:=zcQ hv;rw[← zj3 h.ok hv hk,h.at (e ▸ qat h1)]
theorem Std.ucs{f g:Fc}{M N:Nat}(hf:Std f M)(hg:Std g N):ucs f g=(uni f g).map zgR:=by
 refine qbj fun v hv=>?_
 rcases(zfO hf.ok hg.ok).1 hv with h | h
 ·rw[zBc h,hf.at h]
 rw[zA7 (hf.agr hg) h,hg.at h]
theorem Std.uv{f g:Fc}{M N:Nat}(hf:Std f M)(hg:Std g N):∀ v∈uni f g,v<5:=fun v hv=>((zfO hf.ok hg.ok).1 hv).elim (hf.var v) (hg.var v)
theorem Std.zay{f g:Fc}{M N:Nat}(hf:Std f M)(hg:Std g N):zb2 (iL (Go.Dc.ucs f g))=true:=by
 rw[hf.ucs hg];exact zpz (zkB f g) (hf.uv hg)
theorem zd5{l:List Nat}{M:Nat}(h:∀ x∈l,x≤M)(k:Nat):l.getD k 0≤M:=by
 by_cases hk:k<l.length
 ·rw[qah,qac hk];exact h _ (qat hk)
 rw[qah,qaN (by omega)];exact qaC _
theorem Std.znM{f g:Fc}{M N:Nat}(hf:Std f M)(hg:Std g N)(hB:M * N≤zdl):Go.Dc.znM f g=true:=
 qbC.2 fun j _=>decide_eq_true (qam (qbz (hf.le _) (hg.le _)) hB)
theorem Std.mul{f g:Fc}{M N:Nat}(hf:Std f M)(hg:Std g N)(hB:M * N≤zdl):Std (zqu f g) (M * N):=by
 refine⟨zrP hf.ok hg.ok (hf.zay hg) (hf.znM hg hB),hf.ucs hg,hf.uv hg,zd5 fun x hx=>?_⟩;obtain⟨j,_,rfl⟩:=qaB.1 hx;exact qbz (hf.le _) (hg.le _)
theorem Std.ziu{f g:Fc}{M N:Nat}(hf:Std f M)(hg:Std g N)(hB:M * N≤zdl){s:Nat→Nat}(hs:zz2 s):(zqu f g).val s=f.val s * g.val s:=
 Go.Dc.ziu hf.ok hg.ok (hf.zay hg) ((hf.mul hg hB).fit hs)
theorem Std.bound{f:Fc}{M:Nat}(h:Std f M)(hB:24 * M≤zdl):zac f.cs * M≤zdl:=qam (qar M h.prod) hB
theorem Std.gat{f:Fc}{M:Nat}(hf:Std f M)(hB:24 * M≤zdl)(b:Bool){us:List Nat}(hs:Sel f us):∃ l,Go.Dc.gat b f us=some l∧Std (gF f us l) (24 * M):=by
 have h:=zkr b hf.ok hs hf.le (hf.bound hB);refine⟨_,h,zyr hf.ok hs h,?_,fun v hv=>hf.var v (hs.mem v hv),zd5 fun x hx=>?_⟩
 ·exact qbj fun u hu=>hf.at (hs.mem u hu)
 obtain⟨j,_,rfl⟩:=qaB.1 hx;refine qam (zro (M:=M) fun y hy=>?_) (qar M ?_)
 ·obtain⟨i,_,rfl⟩:=qaB.1 hy;exact hf.le i
 unfold fib;rw[qaA];exact qam (List.length_filter_le _ _) (by rw[List.length_range']; exact hf.prod)
theorem Std.zn3{f:Fc}{M:Nat}(hf:Std f M)(hB:24 * M≤zdl)(b:Bool){v k:Nat}(hv:pos f.vs v=some k){l:List Nat}(hg:Go.Dc.gat b f (rest f v)=some l){s:Nat→Nat}(hs:zz2 s):
  (gF f (rest f v) l).val s=big b ((List.range' 0 (zgR v)).map fun p=>f.val (upd s v p)):=by
 obtain⟨hk1,_⟩:=zcQ hv;have hk:k<f.cs.length:=by rw[← hf.ok.len]; exact hk1
 have h:=Go.Dc.zn3 b hf.ok hv hk hf.le (hf.bound hB) hg (s:=s) fun u hu=>hf.fit hs u (qaJ.1 hu).1
 rw[h,hf.zaD hv hk]
theorem Std.zhR{f:Fc}{M:Nat}(hf:Std f M){v k p:Nat}(hv:pos f.vs v=some k)(hp:p<zgR v){s:Nat→Nat}(hs:zz2 s):(fixF f v k p).val s=f.val (upd s v p):=by
 obtain⟨hk1,_⟩:=zcQ hv;have hk:k<f.cs.length:=by rw[← hf.ok.len]; exact hk1
 exact Go.Dc.zhR hf.ok hv hk (by rw[hf.zaD hv hk]; exact hp) fun u hu=>hf.fit hs u (qaJ.1 hu).1
end Go.Dc
