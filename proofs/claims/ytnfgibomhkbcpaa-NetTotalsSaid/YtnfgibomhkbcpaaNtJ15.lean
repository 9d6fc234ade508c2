/-
 Plain laws: a row of a table sums to the grain. Conditions: none.
-/
import Derived.Test.YtnfgibomhkbcpaaNtJ14
import Derived.Test.YtnfgibomhkbcpaaNtJ8
import Derived.Test.YtnfgibomhkbcpaaNtJ6
set_option linter.unusedSimpArgs false
set_option linter.unusedVariables false
namespace Go.Dc
open Go Go.Mx Go.Lx
theorem zrQ{xs:List Nat}{i v:Nat}(h:i<xs.length):zfu (iL xs) (i:Int) (v:Int)=some (iL (xs.set i v)):=by
 rw[zfD (by rw[zan]; exact h)]; simp[iL]
theorem zrG(xs ys:List Nat):iL (xs ++ ys)=iL xs ++ iL ys:=by simp[iL]
theorem zta:∀ {xs:List Nat} {i k:Nat} (h:i<xs.length),(xs.set i (xs[i]+k)).sum=xs.sum+k
 | [],i,k,h=>absurd h (qar _)
 | x :: xs,0,k,h=>by simp; omega
 | x :: xs,i+1,k,h=>by
  have:=zta (xs:=xs) (i:=i) (k:=k) (by simpa using h);simp only[qcP,qcQ,List.getElem_cons_succ,this];omega
theorem zjG:∀ {xs:List Nat} {i:Nat} (h:i<xs.length),xs[i]≤xs.sum
 | [],i,h=>absurd h (qar _)
 | x :: xs,0,h=>by simp
 | x :: xs,i+1,h=>by
  have:=zjG (xs:=xs) (i:=i) (by simpa using h);simp only[qcQ,List.getElem_cons_succ];omega
theorem zc0{xs0 bs:List Nat}{x:Nat}:zaZ (iL (xs0 ++ x :: bs)) ((xs0.length:Nat):Int)=some (x:Int):=by
 rw[za1 (by simp)]; simp
theorem zgt{xs0 bs:List Nat}{x y:Nat}:zfu (iL (xs0 ++ x :: bs)) ((xs0.length:Nat):Int) (y:Int)=some (iL (xs0 ++ y :: bs)):=by
 rw[zrQ (by simp)]; simp
theorem zkn{a b:Nat}(hb:0<b):znC (a:Int) (b:Int)=some ((a % b:Nat):Int):=by
 unfold znC;have:((b:Int)== 0)=false:=by simp; omega
 rw[this,cond_false]; rfl
theorem zAG{ws:List Nat}{g p c:Nat}(hp:p≤65536)(hc:c≤8):∀(n:Nat) (xs0:List Nat) (k:Nat),xs0.length+k=c→xs0.sum≤7 * xs0.length→k<n →
  ∃ zs:List Nat,zs.length=c∧zs.sum≤7 * c∧zcX (c:Int) (iL ws) (p:Int) n ((xs0.sum:Nat):Int) (xs0.length:Int) (iL (xs0 ++ List.replicate k 0))=some (((zs.sum:Nat):Int),iL zs)
 | 0,_,_,_,_,h=>absurd h (qar _)
 | n+1,xs0,0,h1,h2,h3=>by
  refine⟨xs0,by simpa using h1,by rw[← h1]; simpa using h2,?_⟩;unfold zcX;rw[zaA,decide_eq_false (by omega),cond_false];simp
 | n+1,xs0,k+1,h1,h2,h3=>by
  have step:∀ a:Nat,a≤7→∃ zs:List Nat,zs.length=c∧zs.sum≤7 * c∧zcX (c:Int) (iL ws) (p:Int) n (w64 (((xs0.sum:Nat):Int)+(a:Int))) (w64 ((xs0.length:Int)+1)) (iL (xs0 ++ a :: List.replicate k 0))=some (((zs.sum:Nat):Int),iL zs):=by
   intro a ha;obtain⟨zs,e1,e2,e3⟩:=zAG (ws:=ws) (g:=g) hp hc n (xs0 ++ [a]) k (by simp; omega) (by simp; omega) (by omega);refine⟨zs,e1,e2,?_⟩;rw[zam (by omega),← qbq,zaq (by omega),← e3];simp
  unfold zcX;rw[zaA,decide_eq_true (by omega),cond_true,zan,qaV];by_cases h0:0<ws.length
  ·have hq:(p+xs0.length) % ws.length<ws.length:=qbw _ h0;obtain⟨zs,e1,e2,e3⟩:=step (ws[(p+xs0.length) % ws.length] % 8) (by omega);refine⟨zs,e1,e2,?_⟩
   rw[show decide ((0:Int)<(ws.length:Int))=true by simpa using h0,cond_true,← qbq,zaq (by omega),zkn h0,qaa,za1 hq,qaa,zc0,
    qaa,show(((ws[(p+xs0.length) % ws.length]:Nat):Int).tmod 8)=((ws[(p+xs0.length) % ws.length] % 8:Nat):Int)from rfl,zaq (by omega),zgt,
    qaa,qaa,zc0,qaa,e3]
  obtain⟨zs,e1,e2,e3⟩:=step 0 (by omega);refine⟨zs,e1,e2,?_⟩;rw[show decide ((0:Int)<(ws.length:Int))=false by simpa using h0,cond_false,qaa,zc0,qaa,e3]
theorem zAo{g t c:Nat}(hg:g≤60)(hc:c≤8)(ht:t≤65536):∀(n:Nat) (xs0 bs:List Nat) (m:Nat) (v:Nat),xs0.length+bs.length=c→xs0.sum * t+g * bs.sum≤g * t→bs.sum≤t→xs0.sum≤g→v<c→bs.length<n →
  ∃(zs:List Nat) (v':Nat),zs.length=c∧zs.sum≤g∧v'<c∧zdn (c:Int) (g:Int) (t:Int) n ((g - xs0.sum:Nat):Int) (v:Int) (xs0.length:Int) (iL (xs0 ++ bs))=some (((g - zs.sum:Nat):Int),(v':Int),iL zs)
 | 0,_,_,_,_,_,_,_,_,_,h=>absurd h (qar _)
 | n+1,xs0,[],m,v,h1,h2,h2b,h3,h4,h5=>by
  refine⟨xs0,v,by simpa using h1,h3,h4,?_⟩;unfold zdn;rw[zaA,decide_eq_false (by simp at h1; omega),cond_false];simp
 | n+1,xs0,b :: bs,m,v,h1,h2,h2b,h3,h4,h5=>by
  simp only[qaE,qcQ]at h1 h2 h2b h5;unfold zdn;rw[zaA,decide_eq_true (by omega),cond_true,zc0,qaa];by_cases h0:0<b
  ·have hb:b≤t:=by omega
   have hgb:g * b≤60 * 65536:=qbc hg (by omega);have hd:g * b / t * t≤g * b:=Nat.div_mul_le_self _ _;have hs:xs0.sum+g * b / t≤g:=by
    have h6:(xs0.sum+g * b / t)* t≤g * t:=by
     rw[qaI];have:g * (b+bs.sum)=g * b+g * bs.sum:=qcU _ _ _;omega
    exact qb7 h6 (by omega)
   obtain⟨zs,v',e1,e2,e3,e4⟩:=zAo hg hc ht n (xs0 ++ [g * b / t]) bs m xs0.length (by simp; omega) (by
    have:g * (b+bs.sum)=g * b+g * bs.sum:=qcU _ _ _
    simp only[List.sum_append,qcQ,List.sum_nil,qbm,qaI]; omega) (by omega) (by simpa using hs) (by omega) (by omega)
   refine⟨zs,v',e1,e2,e3,?_⟩;have hq:zo2 .i64 (w64 ((g:Int)* (b:Int))) (t:Int)=some ((g * b / t:Nat):Int):=by
    unfold zo2;have:((t:Int)== 0)=false:=by simp; omega
    rw[this,cond_false,← qaG,zaq (by omega)];have hle:g * b / t≤g * b:=qc8 _ _;exact congrArg some (zaq (n:=g * b / t) (by omega))
   rw[show decide ((0:Int)<(b:Int))=true by simpa using h0,cond_true,hq,qaa,zgt,qaa,qaa];simp only[];rw[zc0,qaa,zam (by omega),show(((g - xs0.sum:Nat):Int) - ((g * b / t:Nat):Int))=((g - (xs0.sum+g * b / t):Nat):Int) by omega,zaq (qca (Nat.sub_le _ _) (by omega)),← e4];simp
  have hb:b=0:=by omega
  subst hb;obtain⟨zs,v',e1,e2,e3,e4⟩:=zAo hg hc ht n (xs0 ++ [0]) bs m v (by simp; omega) (by simp at h2 ⊢; omega) (by omega) (by simpa using h3) h4 (by omega);refine⟨zs,v',e1,e2,e3,?_⟩;rw[show decide ((0:Int)<((0:Nat):Int))=false from rfl,cond_false,qaa];simp only[];rw[zc0,qaa,zam (by omega),← Int.ofNat_sub (by omega),zaq (by omega),← e4];simp
theorem zwe{ws:List Nat}{g p c:Nat}(hg:g≤60)(hp:p≤65536)(h1:1≤c)(hc:c≤8):
  ∃ zs:List Nat,zs.length=c∧zs.sum=g∧zfm (g:Int) (c:Int) (iL ws) (p:Int)=some (iL zs):=by
 obtain⟨zs,e1,e2,e3⟩:=zAG (ws:=ws) (g:=g) hp hc (c+2) [] c (by simp) (by simp) (by omega);obtain⟨ys,v,f1,f2,f3,f4⟩:=zAo (g:=g) (t:=zs.sum) (c:=c) hg hc (by omega) (c+2) [] zs 0 0 (by simp[e1]) (by simp) (qal _) (by simp) (by omega) (by omega);have hv:v<ys.length:=by omega
 refine⟨ys.set v (ys[v]+(g - ys.sum)),by simp[f1],by rw[zta]; omega,?_⟩;unfold zfm;have hz:List.replicate c (0:Int)=iL (List.replicate c 0):=by simp[iL]
 simp only[qa8,List.sum_nil,qaR,qcy]at e3 f4;rw[zdB (by omega),qaa,hz,zaL];rw[show((0:Nat):Int)=0 from rfl]at e3 f4;rw[e3,qaa];simp only[];rw[f4,qaa];simp only[];rw[za1 hv,qaa,← qbq,zaq,zrQ hv,qaa];have:ys[v]≤ys.sum:=zjG hv;omega
theorem zsE{c w:Nat}{os:List Int}{wh:Int}(hc:c≤5):∀(n i:Nat) (acc:List Int),acc.length=i→i≤c→c - i<n →
  ∃ zs:List Int,zs.length=c∧zbh ⟨List.replicate c 0,wh,os⟩ n (i:Int) acc=some zs
 | 0,_,_,_,_,h=>absurd h (qar _)
 | n+1,i,acc,h1,h2,h3=>by
  unfold zbh;simp only[qcA];by_cases hi:i<c
  ·obtain⟨zs,e1,e2⟩:=zsE (w:=w) (os:=os) (wh:=wh) hc n (i+1) (acc ++ [1]) (by simp[h1]) hi (by omega);refine⟨zs,e1,?_⟩
   rw[zaA,decide_eq_true hi,cond_true,qaa,show decide ((i:Int)<5)=true by simp; omega,cond_true,zbn (by simpa using hi),qaa,
    List.getElem_replicate,show w64 (1+w64 ((0:Int).tmod 4))=1 from rfl,zed (by simp; omega),qaa,zam (by omega),e2]
  exact⟨acc,by omega,by rw[zaA,decide_eq_false hi,cond_false,qaa,cond_false]⟩
theorem zuj{c N:Nat}{os:List Int}{wh:Int}(hc:c≤5)(hN:6≤N):∃ zs:List Int,zs.length=c∧zbK N ⟨List.replicate c 0,wh,os⟩=some zs:=by
 obtain⟨zs,e1,e2⟩:=zsE (w:=0) (os:=os) (wh:=wh) hc N 0 [] rfl (qaz _) (by omega);refine⟨zs,e1,?_⟩;unfold zbK;rw[show((0:Nat):Int)=0 from rfl]at e2;rw[e2,qaa]
structure PermOk (c:Nat) (xs:List Nat):Prop where
 len:xs.length=c
 nod:xs.Nodup
 lt:∀ x∈xs,x<c
 all:∀ x,x<c→x∈xs
theorem zmg{α:Type}{xs:List α}{a b:Nat}(h1:a≤b)(h2:b≤xs.length):ze7 xs (a:Int) (b:Int)=some ((xs.drop a).take (b - a)):=by
 unfold ze7;rw[if_pos (by omega)];simp
theorem zvW{c N:Nat}{os:List Nat}{wh:Int}(hc:c≤5)(hN:6≤N)(ho:∀ o∈os,o≤255):∀(n i:Nat) (xs:List Nat),PermOk i xs→i≤c→c - i<n →
  ∃ zs:List Nat,PermOk c zs∧zaz N ⟨List.replicate c 0,wh,iL os⟩ n (i:Int) (iL xs)=some (iL zs)
 | 0,_,_,_,_,h=>absurd h (qar _)
 | n+1,i,xs,h1,h2,h3=>by
  unfold zaz;obtain⟨z0,z1,z2⟩:=zuj (os:=iL os) (wh:=wh) hc hN;rw[z2,qaa,z1];by_cases hi:i<c
  ·have step:∀ q:Nat,q≤i→∃ zs:List Nat,PermOk c zs∧((ze7 (iL xs) 0 (q:Int)).bind fun y9=>
     (zeP 8 y9).bind fun y11=>(zdY 8 y9 [(i:Int)]).bind fun y13=>(ze7 (iL xs) (q:Int) (iL xs).length).bind fun y15=>(zdY 8 y13 y15).bind fun y17=>
     zaz N ⟨List.replicate c 0,wh,iL os⟩ n (w64 ((i:Int)+1)) y17)=some (iL zs):=by
    intro q hq;have hl:=h1.len;have hp:List.Perm (xs.take q ++ i :: xs.drop q) (i :: xs):=by
     refine List.perm_middle.trans ?_;rw[qb9]
    obtain⟨zs,e1,e2⟩:=zvW (wh:=wh) hc hN ho n (i+1) (xs.take q ++ i :: xs.drop q) ⟨by rw[hp.length_eq]; simp[hl],hp.nodup_iff.2 (qbp.2 ⟨fun hx=>qbO _ (h1.lt _ hx),h1.nod⟩),
     fun x hx=>by
      rcases qaK.1 (hp.mem_iff.1 hx)with h | h
      ·omega
      have:=h1.lt _ h; omega,
     fun x hx=>hp.mem_iff.2 (by
      by_cases hxi:x=i
      ·exact qaK.2 (.inl hxi)
      exact qaj _ (h1.all _ (by omega)))⟩ hi (by omega)
    refine⟨zs,e1,?_⟩
    rw[show(0:Int)=((0:Nat):Int)from rfl,zmg (qaz _) (by rw[zan]; omega),qaa,zj3 (by simp[zan]; omega),qaa,
     zed (by simp[zan]; omega),qaa,zmg (by rw[zan]; omega) (qal _),qaa,zed (by simp[zan]; omega),qaa,zam (by omega),← e2]
    congr 1
    simp[iL,qaN]
   rw[zaA,decide_eq_true hi,cond_true];simp only[zan (os)];by_cases hio:i<os.length
   ·have hq:os[i] % (i+1)≤i:=Nat.lt_succ_iff.1 (qbw _ (Nat.succ_pos _));have hb:=ho _ (qav hio);obtain⟨zs,e1,e2⟩:=step _ hq;refine⟨zs,e1,?_⟩;rw[zaA,decide_eq_true hio,cond_true,za1 hio,qaa,zaq (by omega),zam (by omega),zkn (by omega),qaa,qaa,← zam (by omega)];exact e2
   obtain⟨zs,e1,e2⟩:=step 0 (qaz _);refine⟨zs,e1,?_⟩;rw[zaA,decide_eq_false hio,cond_false,qaa];exact e2
  have:i=c:=by omega
  subst this;exact⟨xs,h1,by rw[zaA,decide_eq_false hi,cond_false]⟩
theorem zxi{c N:Nat}{os:List Nat}{wh:Int}(hc:c≤5)(hN:6≤N)(ho:∀ o∈os,o≤255):
  ∃ zs:List Nat,PermOk c zs∧za4 N ⟨List.replicate c 0,wh,iL os⟩=some (iL zs):=by
 obtain⟨zs,e1,e2⟩:=zvW (wh:=wh) hc hN ho N 0 [] ⟨rfl,List.nodup_nil,by simp,by simp⟩ (qaz _) (by omega);refine⟨zs,e1,?_⟩;unfold za4;rw[show((0:Nat):Int)=0 from rfl,show iL []=[]from rfl]at e2;rw[e2,qaa]
structure NN where
 c:Nat
 ps:List Nat
 rows:List (List Nat)
def nd(x:NN):S_api_Node:=⟨x.c,iL x.ps,x.rows.map iL⟩
theorem zuq(k:IntKind)(a:Int){v:Nat}:∃ q,ziT k a (v:Int)=some q:=by
 unfold ziT;rw[if_pos (qby v)];exact⟨_,rfl⟩
theorem zuf{num ps:List Nat}{ps8:Int}{u k:Nat}(hk:k<num.length):∃ b,ztV (iL num) ps8 (u:Int) (k:Int) (iL ps)=some b∧(b=true→num[k]=u∧ps.length<3):=by
 unfold ztV;rw[za1 hk,qaa];by_cases h:num[k]=u
 ·obtain⟨q,e⟩:=zuq .u8 ps8 (v:=k % 18446744073709551616);rw[show(((num[k]:Nat):Int)==(u:Int))=true by simp[h],cond_true,ztR,e,qaa];cases zkO .u8 q 1 == 1 with
  | true=>exact⟨_,rfl,fun h2=>⟨h,by rw[zan]at h2; have:=of_decide_eq_true h2; omega⟩⟩
  | false=>exact⟨_,rfl,fun h2=>by cases h2⟩
 rw[show(((num[k]:Nat):Int)==(u:Int))=false by simp; omega,cond_false];exact⟨_,rfl,fun h2=>by cases h2⟩
theorem zkK{num:List Nat}{ps8:Int}{u i:Nat}(hi:i≤num.length)(hn:num.length≤5)(hd:num.Nodup):∀(n k:Nat) (ps:List Nat),ps.length≤3→k≤i→i - k<n →
  ∃ qs:List Nat,zne (iL num) (i:Int) ps8 (u:Int) n (k:Int) (iL ps)=some (iL qs)∧(qs=ps∨(qs=ps ++ [u]∧ps.length<3∧∃ j,k≤j∧j<i∧num[j]? = some u))
 | 0,_,_,_,_,h=>absurd h (qar _)
 | n+1,k,ps,h1,h2,h3=>by
  unfold zne;by_cases hk:k<i
  ·obtain⟨b,e,hb⟩:=zuf (num:=num) (ps:=ps) (ps8:=ps8) (u:=u) (k:=k) (by omega);rw[zaA,decide_eq_true hk,cond_true,e,qaa];cases b with
   | false=>
    obtain⟨qs,e2,h4⟩:=zkK (ps8:=ps8) (u:=u) hi hn hd n (k+1) ps h1 hk (by omega);refine⟨qs,by rw[cond_false,zam (by omega),e2],?_⟩;rcases h4 with h4 | ⟨h4,h5,j,h6,h7,h8⟩
    ·exact .inl h4
    ·exact .inr ⟨h4,h5,j,by omega,h7,h8⟩
   | true=>
    obtain⟨h5,h6⟩:=hb rfl;obtain⟨qs,e2,h4⟩:=zkK (ps8:=ps8) (u:=u) hi hn hd n (k+1) (ps ++ [u]) (by simp; omega) hk (by omega);refine⟨qs,?_,.inr ⟨?_,h6,k,qal _,hk,by rw[qad (by omega),h5]⟩⟩
    ·rw[cond_true,zed (by simp[zan]; omega),qaa,zam (by omega),← e2];simp[iL]
    rcases h4 with h4 | ⟨h4,h7,j,h8,h9,h10⟩
    ·exact h4
    exfalso
    have hj:j<num.length:=by omega
    rw[qad hj]at h10;have h12:num[j]=num[k]'(by omega):=by rw[h5]; exact qac h10
    exact qbd.1 hd k j (by omega) hj (by omega) h12.symm
  exact⟨ps,by rw[zaA,decide_eq_false hk,cond_false],.inl rfl⟩
structure ParOk (num:List Nat) (i:Nat) (b:Nat) (ps:List Nat):Prop where
 len:ps.length≤3
 inc:ps.Pairwise (· < ·)
 lt:∀ p∈ps,p<b
 mem:∀ p∈ps,∃ j,j<i∧num[j]? = some p
theorem zoi{num:List Nat}{ps8:Int}{i c:Nat}(hi:i≤num.length)(hn:num.length≤5)(hc:c≤5)(hd:num.Nodup):∀(n u:Nat) (ps:List Nat),ParOk num i u ps→u≤c→c - u<n →
  ∃ qs:List Nat,zqb (iL num) (i:Int) ps8 (c:Int) n (u:Int) (iL ps)=some (iL qs)∧ParOk num i c qs
 | 0,_,_,_,_,h=>absurd h (qar _)
 | n+1,u,ps,h1,h2,h3=>by
  unfold zqb;by_cases hu:u<c
  ·obtain⟨qs,e,h4⟩:=zkK (ps8:=ps8) (u:=u) hi hn hd (i+2) 0 ps h1.len (qaz _) (by omega);rw[show((0:Nat):Int)=0 from rfl]at e;have hq:ParOk num i (u+1) qs:=by
    rcases h4 with h4 | ⟨h4,h5,j,h6,h7,h8⟩
    ·subst h4;exact⟨h1.len,h1.inc,fun p hp=>Nat.lt_succ_of_lt (h1.lt p hp),h1.mem⟩
    subst h4;refine⟨by simp; omega,?_,?_,?_⟩
    ·rw[qcD];exact⟨h1.inc,List.pairwise_singleton _ _,fun a ha b hb=>by rw[qa3.1 hb]; exact h1.lt a ha⟩
    ·intro p hp;rcases qbB.1 hp with hp | hp
     ·exact Nat.lt_succ_of_lt (h1.lt p hp)
     rw[qa3.1 hp]; exact qbR _
    intro p hp;rcases qbB.1 hp with hp | hp
    ·exact h1.mem p hp
    rw[qa3.1 hp]; exact⟨j,h7,h8⟩
   obtain⟨rs,e2,h9⟩:=zoi (ps8:=ps8) hi hn hc hd n (u+1) qs hq hu (by omega);refine⟨rs,?_,h9⟩;rw[zaA,decide_eq_true hu,cond_true,qaH,e,qaa,zam (by omega),e2]
  have:u=c:=by omega
  subst this;exact⟨ps,by rw[zaA,decide_eq_false hu,cond_false],h1⟩
theorem zcB{ns:List NN}{v:Nat}(h:v<ns.length):zaZ (ns.map nd) (v:Int)=some (nd ns[v]):=by
 rw[zbn (by simpa using h)]; simp
theorem zgK{ns:List NN}{v:Nat}{x:NN}(h:v<ns.length):zfu (ns.map nd) (v:Int) (nd x)=some ((ns.set v x).map nd):=by
 rw[zfD (by simpa using h)]; simp
theorem zwS{num:List Nat}{ps8:Int}{i:Nat}{ns:List NN}{v:Nat}(hi:i≤num.length)(hn:num.length≤5)(hl:ns.length≤5)(hd:num.Nodup)(hv:v<ns.length)(hp:ns[v].ps=[]):
  ∃ qs:List Nat,zn5 (iL num) (i:Int) (v:Int) (ns.length:Int) ps8 (ns.map nd)=some ((ns.set v ⟨ns[v].c,qs,ns[v].rows⟩).map nd)∧ParOk num i ns.length qs:=by
 obtain⟨qs,e,h⟩:=zoi (ps8:=ps8) hi hn hl hd (ns.length+2) 0 [] ⟨by simp,by simp,by simp,by simp⟩ (qaz _) (by omega);refine⟨qs,?_,h⟩;unfold zn5;rw[show((0:Nat):Int)=0 from rfl,show iL []=[]from rfl]at e;rw[zcB hv,qaa,show(nd ns[v]).parents.isEmpty=true by simp[nd,hp,iL],cond_true,qaH,e,qaa];exact zgK (x:=⟨ns[v].c,qs,ns[v].rows⟩) hv
structure RowsOk (g c m:Nat) (rows:List (List Nat)):Prop where
 len:rows.length=m
 row:∀ r∈rows,r.length=c∧r.sum=g
theorem zh9{ns:List NN}{v:Nat}{x:NN}(hv:v<ns.length)(hx:x.c=ns[v].c):(ns.set v x).map (·.c)=ns.map (·.c):=by
 rw[List.map_set,hx];apply qcq (by simp);intro i h1 h2;rw[List.getElem_set];split
 ·subst_vars; simp
 rfl
def zdg(ns:List NN)(ps:List Nat):List Nat:=ps.map fun p=>(ns.map (·.c)).getD p 0
theorem zsl{xs:List Nat}{p:Nat}:(iL xs).getD p 0=((xs.getD p 0:Nat):Int):=by
 simp only[iL,qam,qa5];cases xs[p]?<;>rfl
theorem zwY{g:Int}{ns:List NN}{v:Nat}(hl:ns.length≤8)(hv:v<ns.length)(hp:Pl ns.length ns[v].ps)(h8:ns[v].ps.length≤8):
  zaV ⟨g,ns.map nd⟩ (v:Int)=some (iL (zdg ns ns[v].ps)):=by
 unfold zaV;rw[zcB hv,qaa,zt4 (by simpa using hl),qaa];have hc:(ns.map nd).map (·.zaE)=iL (ns.map (·.c)):=by simp[iL,nd,qch]
 simp only[];rw[hc,show(nd ns[v]).parents=iL ns[v].ps from rfl,zwy (by rw[zan,qaB]; exact hp) h8,qaa];congr 1
 simp only[zsl];simp only[zdg,iL,qcX,qch]
theorem zos{g:Nat}{W:List Nat}{ns:List NN}{v m:Nat}(hg:g≤60)(hl:ns.length≤8)(hv:v<ns.length)(hp:Pl ns.length ns[v].ps)(h8:ns[v].ps.length≤8)(hc1:1≤ns[v].c)(hc4:ns[v].c≤4)
  (hs:∀ x∈zdg ns ns[v].ps,1≤x) (hm:zac (zdg ns ns[v].ps)=m) (hm2:m≤1024):∀(n r:Nat) (rows:List (List Nat)),RowsOk g ns[v].c r rows→r≤m→m - r<n →
  ∃ rows',RowsOk g ns[v].c m rows'∧zqo (g:Int) (v:Int) (iL W) (ns.map nd) (nd ns[v]) n (r:Int) (rows.map iL)=some (rows'.map iL)
 | 0,_,_,_,_,h=>absurd h (qar _)
 | n+1,r,rows,h1,h2,h3=>by
  unfold zqo;have hx:(⟨(nd ns[v]).zaE,(nd ns[v]).parents,rows.map iL⟩:S_api_Node)=nd ⟨ns[v].c,ns[v].ps,rows⟩:=rfl;have hpc:zaV ⟨g,(ns.set v ⟨ns[v].c,ns[v].ps,rows⟩).map nd⟩ (v:Int)=some (iL (zdg ns ns[v].ps)):=by
   rw[zwY (by simpa using hl) (by simpa using hv) (by simpa using hp) (by simpa using h8)];unfold zdg;rw[zh9 (x:=⟨ns[v].c,ns[v].ps,rows⟩) hv rfl];simp
  rw[hx,zgK hv,qaa,hpc,qaa,zwX hs (by simpa [zdg]using h8) (by omega),qaa,hm];by_cases hr:r<m
  ·have hmul:r * (ns[v].c+1)≤1024 * 5:=qbc (by omega) (by omega);obtain⟨zs,e1,e2,e3⟩:=zwe (ws:=W) (g:=g) (p:=r * (ns[v].c+1)) (c:=ns[v].c) hg (by omega) hc1 (by omega)
   obtain⟨rows',e4,e5⟩:=zos hg hl hv hp h8 hc1 hc4 hs hm hm2 (W:=W) n (r+1) (rows ++ [zs]) ⟨by simp[h1.len],by
    intro y hy;rcases qbB.1 hy with hy | hy
    ·exact h1.row y hy
    rw[qa3.1 hy]; exact⟨e1,e2⟩⟩ hr (by omega)
   refine⟨rows',e4,?_⟩;have hcard:(nd ns[v]).zaE=((ns[v].c:Nat):Int):=rfl;have hlen:=h1.len;rw[zaA,decide_eq_true hr,cond_true,hcard,zam (by omega),← qaG,zaq (by omega),e3,qaa,zed (by simp; omega),qaa,zam (by omega),← e5];simp
  have:r=m:=by omega
  subst this;exact⟨rows,h1,by rw[zaA,decide_eq_false hr,cond_false]⟩
theorem zwv{g N:Nat}{W:List Nat}{ns:List NN}{v:Nat}(hg:g≤60)(hl:ns.length≤8)(hv:v<ns.length)(hp:Pl ns.length ns[v].ps)(h8:ns[v].ps.length≤8)(hc1:1≤ns[v].c)(hc4:ns[v].c≤4)
  (hs:∀ x∈zdg ns ns[v].ps,1≤x) (hm2:zac (zdg ns ns[v].ps)≤1024) (hr:ns[v].rows=[]) (hN:1025≤N):
  ∃ rows,RowsOk g ns[v].c (zac (zdg ns ns[v].ps)) rows∧znA N (g:Int) (v:Int) (iL W) (ns.map nd)=some ((ns.set v ⟨ns[v].c,ns[v].ps,rows⟩).map nd):=by
 obtain⟨rows,e1,e2⟩:=zos hg hl hv hp h8 hc1 hc4 hs rfl hm2 (W:=W) N 0 [] ⟨rfl,by simp⟩ (qaz _) (by omega);refine⟨rows,e1,?_⟩;unfold znA;rw[show((0:Nat):Int)=0 from rfl,show([]:List (List Nat)).map iL=[]from rfl]at e2;rw[zcB hv,qaa,show(nd ns[v]).rows.isEmpty=true by simp[nd,hr],cond_true,e2,qaa];exact zgK (x:=⟨ns[v].c,ns[v].ps,rows⟩) hv
structure NodeOk (num:List Nat) (g:Nat) (cs:List Nat) (j:Nat) (x:NN):Prop where
 par:ParOk num j cs.length x.ps
 rows:RowsOk g x.c (zac (x.ps.map fun p=>cs.getD p 0)) x.rows
structure NetOk (num:List Nat) (g:Nat) (ns:List NN):Prop where
 g1:1≤g
 g2:g≤60
 n1:1≤ns.length
 n2:ns.length≤8
 zaE:∀ x∈ns,1≤x.c∧x.c≤4
 prod:zac (ns.map (·.c))≤1024
 perm:PermOk ns.length num
 node:∀(j v:Nat) (x:NN),num[j]? = some v→ns[v]? = some x→NodeOk num g (ns.map (·.c)) j x
structure PieceN where
 zaE:Nat
 parents:Nat
 w:List Nat
structure DraftN where
 grain:Nat
 nodes:List PieceN
 order:List Nat
def zps(x:PieceN):S_haruspexref05_Piece:=⟨x.zaE,x.parents,iL x.w⟩
def zcY(d:DraftN):S_haruspexref05_Draft:=⟨d.grain,d.nodes.map zps,iL d.order⟩
structure DraftOk (d:DraftN):Prop where
 grain:d.grain≤255
 zaE:∀ x∈d.nodes,x.zaE≤255
 order:∀ x∈d.order,x≤255
def zli(d:DraftN):Nat:=min (max d.nodes.length 1) 5
theorem zn3(d:DraftN):zdf (zdd ((zcY d).nodes.length:Int) 1) 5=((zli d:Nat):Int):=by
 simp only[zdf,zdd,zli,zcY,qaB];split<;>split<;>omega
def zmY(xs:List Nat):Nat:=xs.foldr (fun x a=>max 1 x * a) 1
theorem zmc:∀ {xs:List Nat} {i c:Nat},xs[i]? = some 0→1≤c→zmY (xs.set i c)=zmY xs * c
 | [],i,c,h,hc=>by simp at h
 | x :: xs,0,c,h,hc=>by
  have:x=0:=by simpa using h
  subst this;simp only[qcw,zmY,qc9];rw[Nat.max_eq_right hc,Nat.max_eq_left (qaz _),qbf,qaQ]
 | x :: xs,i+1,c,h,hc=>by
  have ih:=zmc (xs:=xs) (i:=i) (c:=c) (by simpa using h) hc;simp only[qcP,zmY,qc9]at ih ⊢;rw[ih,qaZ]
theorem zoq:∀ {xs:List Nat},(∀ x∈xs,1≤x)→zmY xs=zac xs
 | [],_=>rfl
 | x :: xs,h=>by
  have ih:=zoq (xs:=xs) fun y hy=>h y (qaj _ hy)
  have hx:=h x qan;simp only[zmY,zac,qc9]at ih ⊢;rw[ih,Nat.max_eq_right hx]
theorem zA5{a v:Nat}(h:a * 2 ^ v<9223372036854775808)(hv:v<64):ztN .i64 (a:Int) (v:Int)=some ((a * 2 ^ v:Nat):Int):=by
 unfold ztN;rw[if_pos (qby v)];congr 1
 have h1:min (v:Int).toNat IntKind.i64.bits=v:=by
  rw[show IntKind.i64.bits=64 from rfl,qaH]; exact qbN (by omega)
 rw[h1];have h2:(a:Int)* ((2:Int) ^ v)=((a * 2 ^ v:Nat):Int):=by simp
 rw[h2];exact zaq h
structure L1Ok (num:List Nat) (c j a:Nat) (ns:List NN):Prop where
 len:ns.length=c
 bare:∀ x∈ns,x.ps=[]∧x.rows=[]
 prod:zmY (ns.map (·.c))=a
 low:a * 2 ^ (c - j)≤100
 done:∀(k v:Nat),k<j→num[k]? = some v→∃ x,ns[v]? = some x∧2≤x.c∧x.c≤3
 left:∀(k v:Nat),j≤k→num[k]? = some v→∃ x,ns[v]? = some x∧x.c=0
theorem zlY{d:DraftN}(hd:DraftOk d){j:Nat}:∃(zaE parents:Nat) (w:List Nat),zaE≤255 ∧
  ((bif (decide ((j:Int)<((zcY d).nodes.length:Int)))then(
(zaZ (zcY d).nodes (j:Int)).bind fun x9=>
some (x9.zaE,x9.parents,x9.w))
else(
some (0,0,[])):Option ((Int×Int×(List Int)))))=some ((zaE:Int),(parents:Int),iL w):=by
 have hl:(zcY d).nodes.length=d.nodes.length:=by simp[zcY]
 by_cases hj:j<d.nodes.length
 ·refine⟨d.nodes[j].zaE,d.nodes[j].parents,d.nodes[j].w,hd.zaE _ (qav hj),?_⟩;rw[hl,zaA,decide_eq_true hj,cond_true,zbn (by rw[hl]; exact hj),qaa];simp[zcY,zps]
 refine⟨0,0,[],by omega,?_⟩;rw[hl,zaA,decide_eq_false hj,cond_false];rfl
theorem zvM{d:DraftN}(hd:DraftOk d){num:List Nat}{c:Nat}(hc:zli d=c)(hp:PermOk c num):∀(n j a:Nat) (ns:List NN),L1Ok num c j a ns→j≤c→c - j<n →
  ∃(ns':List NN) (a':Nat),L1Ok num c c a' ns'∧zbj (zcY d) (iL num) n (a:Int) (j:Int) (ns.map nd)=some (ns'.map nd)
 | 0,_,_,_,_,_,h=>absurd h (qar _)
 | n+1,j,a,ns,h1,h2,h3=>by
  have hc5:c≤5:=by rw[← hc]; exact qcn _ _
  unfold zbj;rw[zn3,hc];by_cases hj:j<c
  ·rw[zaA,decide_eq_true hj,cond_true];obtain⟨zaE,parents,w,hcard,e⟩:=zlY hd (j:=j);rw[e,qaa];simp only[];have hjn:j<num.length:=by rw[hp.len]; exact hj
   have hv:num[j]<ns.length:=by rw[h1.len]; exact hp.lt _ (qav hjn)
   obtain⟨x0,hx0,hx00⟩:=h1.left j num[j] (qal _) (qad hjn);have hx1:ns[num[j]]=x0:=by rw[qad hv]at hx0; exact qac hx0
   have hbare:=h1.bare _ (qav hv);have hpow:1≤2 ^ (c - 1 - j):=Nat.one_le_two_pow;have hsplit:2 ^ (c - j)=2 * 2 ^ (c - 1 - j):=by rw[show c - j=(c - 1 - j)+1 by omega,qcB,qaQ]
   have hlow:=h1.low;have hle:a * 2 ^ (c - 1 - j)≤100:=qap (Nat.mul_le_mul_left a (by omega)) hlow;have ha:a≤100:=qap (qaS a hpow) hle;have step:∀ b:Nat,2≤b→b≤3→a * b * 2 ^ (c - 1 - j)≤100→∃(ns':List NN) (a':Nat),L1Ok num c c a' ns' ∧
     ((zaZ (iL num) (j:Int)).bind fun x14=>(zaZ (ns.map nd) x14).bind fun x16=>(zfu (ns.map nd) x14 (S_api_Node.mk (b:Int) x16.parents x16.rows)).bind fun y18=>
      zbj (zcY d) (iL num) n (w64 ((a:Int)* (b:Int))) (w64 ((j:Int)+1)) y18)=some (ns'.map nd):=by
    intro b hb1 hb2 hb3;have hab:a * b≤100:=qap (qaS _ hpow) hb3
    obtain⟨ns',a',f1,f2⟩:=zvM hd hc hp n (j+1) (a * b) (ns.set num[j] ⟨b,ns[num[j]].ps,ns[num[j]].rows⟩) {
     len:=by simpa using h1.len
     bare:=fun y hy=>by
      rcases List.mem_or_eq_of_mem_set hy with hy | hy
      ·exact h1.bare y hy
      subst hy; exact hbare
     prod:=by
      rw[List.map_set,zmc (c:=b) (by rw[qa5,qad hv,hx1]; simp[hx00]) (by omega),h1.prod]
     low:=by rw[show c - (j+1)=c - 1 - j by omega]; exact hb3
     done:=fun k v hk hkv=>by
      by_cases hkj:k=j
      ·subst hkj;rw[qad hjn]at hkv;have:=qac hkv;subst this;exact⟨_,qaC hv,hb1,hb2⟩
      obtain⟨x,g1,g2⟩:=h1.done k v (by omega) hkv;refine⟨x,?_,g2⟩;rw[qao,g1];intro hh;have hk':=(qab.1 hkv);have hkl:k<num.length:=hk'.1;exact qbd.1 hp.nod k j hkl hjn (by omega) (by rw[hk'.2]; exact hh.symm)
     left:=fun k v hk hkv=>by
      obtain⟨x,g1,g2⟩:=h1.left k v (by omega) hkv;refine⟨x,?_,g2⟩;rw[qao,g1];intro hh;have hk':=(qab.1 hkv);have hkl:k<num.length:=hk'.1
      exact qbd.1 hp.nod j k hjn hkl (by omega) (by rw[hk'.2]; exact hh) } hj (by omega)
    refine⟨ns',a',f1,?_⟩
    rw[za1 hjn,qaa,zcB hv,qaa,show S_api_Node.mk (b:Int) (nd ns[num[j]]).parents (nd ns[num[j]]).rows=nd ⟨b,ns[num[j]].ps,ns[num[j]].rows⟩from rfl,
     zgK hv,qaa,← qaG,zaq (by omega),zam (by omega),f2]
   have hw1:w64 (2+w64 ((zaE:Int).tmod 2))=((2+zaE % 2:Nat):Int):=by
    rw[show((zaE:Int).tmod 2)=((zaE % 2:Nat):Int)from rfl,zaq (by omega),show(2:Int)+((zaE % 2:Nat):Int)=((2+zaE % 2:Nat):Int) by omega,zaq (by omega)]
   have hac:a * (2+zaE % 2)≤100 * 3:=qbc ha (by omega);have hbig:a * (2+zaE % 2)* 2 ^ (c - 1 - j)≤300 * 2 ^ 4:=qbc hac (qbI (by decide) (by omega));have hcc:w64 (((c:Nat):Int) - 1)=((c - 1:Nat):Int):=by rw[show((c:Nat):Int) - 1=((c - 1:Nat):Int) by omega,zaq (by omega)]
   have hcj:w64 (((c - 1:Nat):Int) - (j:Int))=((c - 1 - j:Nat):Int):=by rw[show((c - 1:Nat):Int) - (j:Int)=((c - 1 - j:Nat):Int) by omega,zaq (by omega)]
   rw[hw1,hcc,hcj,zb1 (by omega),← qaG,zaq (by omega),zA5 (by omega) (by omega),qaa];by_cases hbg:100<a * (2+zaE % 2)* 2 ^ (c - 1 - j)
   ·obtain⟨ns',a',f1,f2⟩:=step 2 (by omega) (by omega) (by rw[qaZ,← hsplit]; exact hlow);refine⟨ns',a',f1,?_⟩;rw[show decide ((100:Int)<((a * (2+zaE % 2)* 2 ^ (c - 1 - j):Nat):Int))=true from decide_eq_true (by omega),cond_true,qaa];exact f2
   obtain⟨ns',a',f1,f2⟩:=step (2+zaE % 2) (by omega) (by omega) (by omega);refine⟨ns',a',f1,?_⟩;rw[show decide ((100:Int)<((a * (2+zaE % 2)* 2 ^ (c - 1 - j):Nat):Int))=false from decide_eq_false (by omega),cond_false,qaa];exact f2
  have:j=c:=by omega
  subst this;exact⟨ns,a,h1,by rw[zaA,decide_eq_false hj,cond_false]⟩
structure L2Ok (num:List Nat) (g c:Nat) (cs:List Nat) (i:Nat) (ns:List NN):Prop where
 len:ns.length=c
 zad:ns.map (·.c)=cs
 done:∀(k v:Nat) (x:NN),k<i→num[k]? = some v→ns[v]? = some x→NodeOk num g cs k x
 left:∀(k v:Nat) (x:NN),i≤k→num[k]? = some v→ns[v]? = some x→x.ps=[]∧x.rows=[]
theorem zhO{m:Nat}(hm:1≤m):∀ {xs:List Nat},(∀ x∈xs,x≤m)→zac xs≤m ^ xs.length
 | [],_=>qal 1
 | x :: xs,h=>by
  have ih:=zhO hm (xs:=xs) fun y hy=>h y (qaj _ hy)
  rw[qaE,qcB,qaQ];exact qbc (h x qan) ih
theorem zvZ{xs:List Nat}(h:xs.Nodup){i j v w:Nat}(hi:xs[i]? = some v)(hj:xs[j]? = some w)(hne:i≠j):v≠w:=by
 obtain⟨h1,h2⟩:=qab.1 hi;obtain⟨h3,h4⟩:=qab.1 hj;intro he;rcases Nat.lt_or_gt_of_ne hne with hlt | hlt
 ·exact qbd.1 h i j h1 h3 hlt (by rw[h2,h4,he])
 exact qbd.1 h j i h3 h1 hlt (by rw[h2,h4,he])
theorem zvK{d:DraftN}(hd:DraftOk d){num:List Nat}{c N:Nat}{cs:List Nat}(hc:zli d=c)(hp:PermOk c num)(hs:∀ x∈cs,1≤x∧x≤3)(hN:1025≤N):∀(n i:Nat) (ns:List NN),L2Ok num (1+d.grain % 60) c cs i ns→i≤c→c - i<n →
  ∃ ns':List NN,L2Ok num (1+d.grain % 60) c cs c ns'∧zbE N (zcY d) (iL num) n (i:Int) (ns.map nd)=some (ns'.map nd)
 | 0,_,_,_,_,h=>absurd h (qar _)
 | n+1,i,ns,h1,h2,h3=>by
  have hc5:c≤5:=by rw[← hc]; exact qcn _ _
  unfold zbE;rw[zn3,hc];by_cases hi:i<c
  ·rw[zaA,decide_eq_true hi,cond_true];obtain⟨zaE,parents,w,hcard,e⟩:=zlY hd (j:=i);rw[e,qaa];simp only[];have hin:i<num.length:=by rw[hp.len]; exact hi
   have hget:num[i]? = some num[i]:=qad hin;have hlen:=h1.len;have hcl:cs.length=c:=by rw[← h1.zad,qaB,h1.len]
   have hv:num[i]<ns.length:=by rw[h1.len]; exact hp.lt _ (qav hin)
   obtain⟨b1,b2⟩:=h1.left i num[i] ns[num[i]] (qal _) hget (qad hv);obtain⟨qs,e2,hq⟩:=zwS (num:=num) (ps8:=(parents:Int)) (i:=i) (ns:=ns) (v:=num[i]) (by omega) (by rw[hp.len]; omega) (by omega) hp.nod hv b1;rw[h1.len]at e2 hq;have hg:w64 (1+w64 ((zcY d).grain.tmod 60))=((1+d.grain % 60:Nat):Int):=by
    rw[show((zcY d).grain.tmod 60)=((d.grain % 60:Nat):Int)from rfl,zaq (by omega),show(1:Int)+((d.grain % 60:Nat):Int)=((1+d.grain % 60:Nat):Int) by omega,zaq (by omega)]
   have hset:(ns.set num[i] ⟨ns[num[i]].c,qs,ns[num[i]].rows⟩)[num[i]]'(by simpa using hv)=⟨ns[num[i]].c,qs,ns[num[i]].rows⟩:=by simp
   have hcs1:(ns.set num[i] ⟨ns[num[i]].c,qs,ns[num[i]].rows⟩).map (·.c)=cs:=by rw[zh9 (x:=⟨ns[num[i]].c,qs,ns[num[i]].rows⟩) hv rfl,h1.zad]
   have hcv:1≤ns[num[i]].c∧ns[num[i]].c≤3:=hs _ (by rw[← h1.zad]; exact qaF.2 ⟨_,qav hv,rfl⟩);have hco:zdg (ns.set num[i] ⟨ns[num[i]].c,qs,ns[num[i]].rows⟩) qs=qs.map fun p=>cs.getD p 0:=by unfold zdg; rw[hcs1]
   have hqs:∀ x∈(qs.map fun p=>cs.getD p 0),1≤x∧x≤3:=by
    intro x hx;obtain⟨p,hpq,rfl⟩:=qaF.1 hx;have hpl:p<cs.length:=by rw[hcl]; exact hq.lt p hpq
    refine hs _ ?_;simp[hpl]
   have hprod:zac (qs.map fun p=>cs.getD p 0)≤3 ^ 3:=by
    refine qap (zhO (m:=3) (by omega) fun x hx=>(hqs x hx).2) ?_;rw[qaB];exact qbI (by decide) hq.len
   obtain⟨rows,r1,r2⟩:=zwv (g:=1+d.grain % 60) (N:=N) (W:=w) (ns:=ns.set num[i] ⟨ns[num[i]].c,qs,ns[num[i]].rows⟩) (v:=num[i]) (by omega) (by simp; omega) (by simpa using hv)
    (by rw[hset]; intro p hpq; rw[qaU,h1.len]; exact hq.lt p hpq) (by rw[hset]; have:=hq.len; simp; omega) (by rw[hset]; exact hcv.1) (by rw[hset]; have:=hcv.2; simp; omega)
    (by rw[hset,hco]; exact fun x hx=>(hqs x hx).1) (by rw[hset,hco]; exact qap hprod (by decide)) (by rw[hset]; exact b2) hN
   simp only[hset,hco,List.set_set]at r1 r2
   obtain⟨ns',f1,f2⟩:=zvK hd hc hp hs hN n (i+1) (ns.set num[i] ⟨ns[num[i]].c,qs,rows⟩) {
    len:=by simpa using h1.len
    zad:=by rw[zh9 (x:=⟨ns[num[i]].c,qs,rows⟩) hv rfl,h1.zad]
    done:=fun k v x hk hkv hx=>by
     by_cases hki:k=i
     ·subst hki;rw[hget]at hkv;have:=qac hkv;subst this;rw[qaC hv]at hx;have:=qac hx;subst this;exact⟨by rw[hcl]; exact hq,r1⟩
     rw[qao (zvZ hp.nod hget hkv (by omega))]at hx;exact h1.done k v x (by omega) hkv hx
    left:=fun k v x hk hkv hx=>by
     rw[qao (zvZ hp.nod hget hkv (by omega))]at hx
     exact h1.left k v x (by omega) hkv hx } hi (by omega)
   refine⟨ns',f1,?_⟩;rw[za1 hin,qaa,e2,qaa,hg,r2,qaa,zam (by omega),f2]
  have:i=c:=by omega
  subst this;exact⟨ns,h1,by rw[zaA,decide_eq_false hi,cond_false]⟩
theorem zuy{d:DraftN}(hd:DraftOk d){N:Nat}(hN:1025≤N):
  ∃(num:List Nat) (ns:List NN),NetOk num (1+d.grain % 60) ns∧ns.length≤5∧zcb N (zcY d)=some ⟨((1+d.grain % 60:Nat):Int),ns.map nd⟩:=by
 have hc5:zli d≤5:=qcn _ _;have hc1:1≤zli d:=by unfold zli; omega
 obtain⟨num,hp,e1⟩:=zxi (c:=zli d) (N:=N) (os:=d.order) (wh:=0) hc5 (by omega) hd.order;have hpl:=hp.len;have h0:∀ v,v<zli d→(List.replicate (zli d) (⟨0,[],[]⟩:NN))[v]? = some ⟨0,[],[]⟩:=fun v hv=>by simp[hv]
 obtain⟨ns1,a,h1,e2⟩:=zvM hd rfl hp (zli d+2) 0 1 (List.replicate (zli d) ⟨0,[],[]⟩) {
  len:=by simp
  bare:=fun x hx=>by rw[(List.mem_replicate.1 hx).2]; exact⟨rfl,rfl⟩
  prod:=by
   rw[qcO];generalize zli d=c;induction c with
   | zero=>rfl
   | succ c ih=>rw[qaV]; simp only[zmY,qc9]at ih ⊢; rw[ih]; rfl
  low:=by
   have:2 ^ (zli d - 0)≤2 ^ 5:=qbI (by decide) (by omega);omega
  done:=fun k v hk hkv=>absurd hk (qar _)
  left:=fun k v hk hkv=>⟨_,h0 v (hp.lt v (qaD hkv)),rfl⟩ } (qaz _) (by omega)
 have hcards:∀ x∈ns1,2≤x.c∧x.c≤3:=by
  intro x hx;obtain⟨v,hv⟩:=qbH hx;have hvl:v<zli d:=by rw[← h1.len]; exact(qab.1 hv).1
  obtain⟨k,hk⟩:=qbH (hp.all v hvl);obtain⟨y,g1,g2⟩:=h1.done k v (by rw[← hpl]; exact(qab.1 hk).1) hk;rw[hv]at g1;have:=qac g1;subst this;exact g2
 have hcs:∀ x∈ns1.map (·.c),1≤x∧x≤3:=by
  intro x hx;obtain⟨y,hy,rfl⟩:=qaF.1 hx;have:=hcards y hy;exact⟨by omega,this.2⟩
 obtain⟨ns2,h2,e3⟩:=zvK hd rfl hp hcs hN (zli d+2) 0 ns1 ⟨h1.len,rfl,fun k v x hk=>absurd hk (qar _),fun k v x hk hkv hx=>h1.bare x (qaD hx)⟩ (qaz _) (by omega);have hl2:=h2.len;have hlow:=h1.low;refine⟨num,ns2,⟨by omega,by omega,by omega,by omega,?_,?_,by rw[h2.len]; exact hp,?_⟩,by omega,?_⟩
 ·intro x hx;have:=hcs x.c (by rw[← h2.zad]; exact qaF.2 ⟨x,hx,rfl⟩);omega
 ·rw[h2.zad,← zoq fun x hx=>(hcs x hx).1,h1.prod];rw[qc0,Nat.pow_zero]at hlow;omega
 ·intro j v x hj hx;rw[h2.zad];exact h2.done j v x (by rw[← hpl]; exact(qab.1 hj).1) hj hx
 have hg:w64 (1+w64 ((zcY d).grain.tmod 60))=((1+d.grain % 60:Nat):Int):=by
  rw[show((zcY d).grain.tmod 60)=((d.grain % 60:Nat):Int)from rfl,zaq (by omega),show(1:Int)+((d.grain % 60:Nat):Int)=((1+d.grain % 60:Nat):Int) by omega,zaq (by omega)]
 have hz:List.replicate (zli d) (S_api_Node.mk 0 [] [])=(List.replicate (zli d) (⟨0,[],[]⟩:NN)).map nd:=by rw[qcO]; rfl
 have e2':=e2;have e3':=e3;rw[show((0:Nat):Int)=0 from rfl]at e2' e3';rw[show((1:Nat):Int)=1 from rfl]at e2';unfold zcb;rw[zn3,zdB (by omega),qaa,zdB (by omega),qaa,show(zcY d).order=iL d.order from rfl,e1,qaa,zaL,hz,e2',qaa,e3',qaa,hg]
def zdX(xs:List Nat):Nat:=xs.foldl (fun m p=>m ||| 2 ^ p) 0
theorem zuz(xs:List Nat)(p:Nat):zdX (xs ++ [p])=zdX xs ||| 2 ^ p:=by simp[zdX]
theorem zmz:∀(xs:List Nat) (m i:Nat),(xs.foldl (fun m p=>m ||| 2 ^ p) m).testBit i=(m.testBit i || decide (i∈xs))
 | [],m,i=>by simp
 | x :: xs,m,i=>by
  rw[qcK,zmz xs,Nat.testBit_or,Nat.testBit_two_pow,Bool.or_assoc];congr 1
  by_cases h:x=i
  ·simp[h]
  simp[h,show ¬ i=x from fun q=>h q.symm]
theorem zfK(xs:List Nat)(i:Nat):(zdX xs).testBit i=decide (i∈xs):=by
 unfold zdX; rw[zmz]; simp
theorem zoe:∀(xs:List Nat) (m:Nat),m<18446744073709551616→(∀ x∈xs,x<64)→xs.foldl (fun m p=>m ||| 2 ^ p) m<18446744073709551616
 | [],m,h,_=>h
 | x :: xs,m,h,hx=>zoe xs _ (Nat.or_lt_two_pow (n:=64) h (qcE (by decide) (hx x qan))) fun y hy=>hx y (qaj _ hy)
theorem zkJ{xs:List Nat}(h:∀ x∈xs,x<64):zdX xs<18446744073709551616:=zoe xs 0 (by decide) h
def Sub(a b:Nat):Prop:=∀ i,a.testBit i=true→b.testBit i=true
theorem ztk{a b:Nat}(ha:a<18446744073709551616)(hb:b<18446744073709551616):diff a b=0↔Sub a b:=by
 constructor
 ·intro h i hi;have:=zpl (i:=i) ha hb;rw[h,hi]at this;simpa using this
 intro h;apply Nat.eq_of_testBit_eq;intro i;rw[zpl ha hb,Nat.zero_testBit];cases hi:a.testBit i with
 | false=>rfl
 | true=>rw[h i hi]; rfl
theorem zmP{cs ps:List Nat}{nodes:S_api_Net}{sets order:List Int}{x:S_api_Node}(hx:x.parents=iL ps)(hp:Pl cs.length ps)(hl:ps.length≤8)(hc:∀ p∈ps,1≤cs.getD p 0):∀(n i a:Nat),i≤ps.length →
  a * zac ((ps.drop i).map fun p=>cs.getD p 0)≤65536→ps.length - i<n →
  za0 x ⟨nodes,iL cs,sets,order⟩ n (a:Int) (i:Int)=some ((a * zac ((ps.drop i).map fun p=>cs.getD p 0):Nat):Int)
 | 0,_,_,_,_,h=>absurd h (qar _)
 | n+1,i,a,h1,h2,h3=>by
  unfold za0;rw[hx,zan];by_cases hi:i<ps.length
  ·have e2:a * zac ((ps.drop i).map fun p=>cs.getD p 0)=a * cs.getD ps[i] 0 * zac ((ps.drop (i+1)).map fun p=>cs.getD p 0):=by
    rw[qat hi]; exact(qaZ _ _ _).symm
   rw[e2]at h2;have hb:ps[i]<cs.length:=hp _ (qav hi);have hq:1≤zac ((ps.drop (i+1)).map fun p=>cs.getD p 0):=zcd fun x hx=>by
    obtain⟨p,hp1,rfl⟩:=qaF.1 hx;exact hc p (qbY hp1)
   have hle:a * cs.getD ps[i] 0≤65536:=qap (qaS _ hq) h2;have he:cs[ps[i]]=cs.getD ps[i] 0:=by simp[hb]
   rw[zaA,decide_eq_true hi,cond_true,za1 hi,qaa,za1 hb,qaa,he,← qaG,zaq (by omega),zam (by omega),
    zmP hx hp hl hc n (i+1) _ hi h2 (by omega),e2]
  rw[zaA,decide_eq_false hi,cond_false,qa6 (by omega)];simp[zac]
theorem zlH{y:Int×List Int}{zs:List Nat}(hy:y.2=iL zs)(hl:zs.length≤8):∀(n i r:Nat),i≤zs.length→(zs.drop i).sum≤r→r≤65536→zs.length - i<n →
  zaW y n (r:Int) (i:Int)=some (.go ((r - (zs.drop i).sum:Nat):Int))
 | 0,_,_,_,_,_,h=>absurd h (qar _)
 | n+1,i,r,h1,h2,hr,h3=>by
  unfold zaW;rw[hy,zan];by_cases hi:i<zs.length
  ·have e:(zs.drop i).sum=zs[i]+(zs.drop (i+1)).sum:=by rw[qat hi,qcQ]
   rw[e]at h2
   rw[zaA,decide_eq_true hi,cond_true,za1 hi,qaa,show decide (((zs[i]:Nat):Int)<0)=false from decide_eq_false (by omega),cond_false,qaa,
    show decide ((r:Int)<((zs[i]:Nat):Int))=false from decide_eq_false (by omega),cond_false,show((r:Int) - ((zs[i]:Nat):Int))=((r - zs[i]:Nat):Int) by omega,zaq (by omega),zam (by omega),
    zlH hy hl n (i+1) _ hi (by omega) (by omega) (by omega),e,Nat.sub_sub]
  rw[zaA,decide_eq_false hi,cond_false,qa6 (by omega)];simp
theorem zmM{g c:Nat}{nw:S_net_network}{x:S_api_Node}(hg:nw.net.grain=(g:Int))(hg2:g≤60)(hc:x.zaE=(c:Int))(hc8:c≤8):∀(L:List (Int×List Int)),(∀ y∈L,∃ zs:List Nat,y.2=iL zs∧zs.length=c∧zs.sum=g)→
  zaO nw x L=some (.go ())
 | [],_=>rfl
 | y :: L,h=>by
  obtain⟨zs,h1,h2,h3⟩:=h y qan;unfold zaO;have e:=zlH h1 (by omega) (zs.length+2) 0 g (qaz _) (by rw[qbb]; omega) (by omega) (by omega);rw[qbb,h3,qc0,show((0:Nat):Int)=0 from rfl]at e;rw[hg,h1,zan,zaL,e,qaa];simp only[];rw[hc,h2,show((c:Int)==(c:Int))=true by simp,cond_true,qaa,show(!((0:Int)== 0))=false from rfl,cond_false];exact zmM hg hg2 hc hc8 L fun y hy=>h y (qaj _ hy)
theorem zs0{g:Nat}{cs:List Nat}{nodes:List S_api_Node}{sets order:List Int}{x:NN}(hg2:g≤60)(hp:Pl cs.length x.ps)(hl:x.ps.length≤8)(hc:∀ p∈x.ps,1≤cs.getD p 0)(hc8:x.c≤8)
  (hm:zac (x.ps.map fun p=>cs.getD p 0)≤65536) (hr:RowsOk g x.c (zac (x.ps.map fun p=>cs.getD p 0)) x.rows):zbq ⟨⟨(g:Int),nodes⟩,iL cs,sets,order⟩ (nd x)=some true:=by
 unfold zbq;have e:=zmP (x:=nd x) (nodes:=⟨(g:Int),nodes⟩) (sets:=sets) (order:=order) rfl hp hl hc (x.ps.length+2) 0 1 (qaz _) (by simpa using hm) (by omega);rw[show((0:Nat):Int)=0 from rfl,show((1:Nat):Int)=1 from rfl,qbb,qbf]at e;have hrl:(nd x).rows.length=x.rows.length:=by simp[nd]
 rw[show(nd x).parents=iL x.ps from rfl,zan,zaL,e,qaa,hrl,hr.len,show(((zac (x.ps.map fun p=>cs.getD p 0):Nat):Int)==((zac (x.ps.map fun p=>cs.getD p 0):Nat):Int))=true by simp,cond_true];unfold zeq;rw[qaa];have hs:zd3 (nd x).rows=some ():=by
  unfold zd3;rw[if_pos (by rw[hrl,hr.len]; omega)]
 rw[hs,qaa,zmM (g:=g) (c:=x.c) rfl hg2 rfl hc8,qaa];intro y hy;unfold zqV at hy;obtain⟨q,hq,rfl⟩:=qaF.1 hy;have hq1:q.1∈(nd x).rows:=by
  have:=List.mem_zipIdx' hq;rw[this.2]; exact qav _
 obtain⟨zs,hz,hz2⟩:=qaF.1 hq1;exact⟨zs,hz2.symm,hr.row zs hz⟩
def zc8(g:Nat)(ns:List NN):S_api_Net:=⟨(g:Int),ns.map nd⟩
theorem zr4{g P:Nat}{ns:List NN}(hn:ns.length≤8)(hc:∀ x∈ns,1≤x.c∧x.c≤4)(hP:P≤65536):∀(n:Nat) (xs ys:List NN) (a:Nat),xs ++ ys=ns→a * zac (ys.map (·.c))=P→ys.length<n →
  zcI (zc8 g ns) n (a:Int) (xs.length:Int) (iL (xs.map (·.c)++ List.replicate ys.length 0))=some (.go ((P:Int),iL (ns.map (·.c))))
 | 0,_,_,_,_,_,h=>absurd h (qar _)
 | n+1,xs,[],a,h1,h2,h3=>by
  unfold zcI;rw[qaT]at h1;subst h1;have:a=P:=by rw[← h2]; simp[zac]
  subst this;rw[show(zc8 g xs).nodes.length=xs.length by simp[zc8],zaA,decide_eq_false (by omega),cond_false];simp
 | n+1,xs,y :: ys,a,h1,h2,h3=>by
  unfold zcI;have hl:(zc8 g ns).nodes.length=ns.length:=by simp[zc8]
  have hxn:xs.length<ns.length:=by rw[← h1]; simp
  have hy:ns[xs.length]=y:=by subst h1; simp
  have hyc:=hc y (by rw[← h1]; simp);have e2:a * y.c * zac (ys.map (·.c))=P:=by rw[← h2]; exact qaZ _ _ _
  have hq:1≤zac (ys.map (·.c)):=zcd fun c hcm=>by
   obtain⟨z,hz,rfl⟩:=qaF.1 hcm;exact(hc z (by rw[← h1]; simp[hz])).1
  have hle:a * y.c≤P:=by rw[← e2]; exact qaS _ hq
  have ih:=zr4 hn hc hP (g:=g) n (xs ++ [y]) ys (a * y.c) (by rw[← h1]; simp) e2 (by simp at h3; omega)
  rw[hl,zaA,decide_eq_true hxn,cond_true,show zaZ (zc8 g ns).nodes (xs.length:Int)=some (nd y) by rw[← hy]; exact zcB hxn,qaa,
   show(nd y).zaE=(y.c:Int)from rfl,show decide ((y.c:Int)<1)=false from decide_eq_false (by omega),cond_false,qaa,show decide ((4:Int)<(y.c:Int))=false from decide_eq_false (by omega),cond_false]
  have hxl:((xs.length:Nat):Int)=(((xs.map (·.c)).length:Nat):Int):=by simp
  rw[qaE,qaV,hxl,zc0,qaa,zgt,qaa,← qaG,zaq (by omega),zam (by simp; omega),← ih];simp
theorem zqG{g v:Nat}{ns:List NN}{x:S_api_Node}{ps xs ys:List Nat}(hx:x.parents=iL ps)(hn:ns.length≤8)(hv:xs.length=v)(hp:∀ p∈ps,p<ns.length∧p≠v)(hinc:ps.Pairwise (· < ·)):∀(n i:Nat) (m:Nat) (lo:Int),i≤ps.length→m<18446744073709551616 →
  (∀ p∈ps.drop i,lo<(p:Int))→ps.length - i<n →
  zdm x (zc8 g ns) (v:Int) n lo (i:Int) (iL (xs ++ m :: ys))=some (.go (iL (xs ++ ((ps.drop i).foldl (fun m p=>m ||| 2 ^ p) m):: ys)))
 | 0,_,_,_,_,_,_,h=>absurd h (qar _)
 | n+1,i,m,lo,h1,h2,h4,h3=>by
  have hps:ps.length≤9223372036854775806∨True:=.inr trivial;unfold zdm;have hl:(zc8 g ns).nodes.length=ns.length:=by simp[zc8]
  rw[hx,zan,hl];by_cases hi:i<ps.length
  ·have hd:ps.drop i=ps[i]:: ps.drop (i+1):=qat hi;obtain⟨hp1,hp2⟩:=hp _ (qav hi);have hlo:=h4 ps[i] (by rw[hd]; exact qan);have hsm:i≤ps[i]:=by
    have:∀(j:Nat) (hj:j<ps.length),j≤ps[j]:=by
     intro j;induction j with
     | zero=>intro hj; exact qaz _
     | succ j ih=>
      intro hj;have h6:=ih (by omega);have h7:=qbd.1 hinc j (j+1) (by omega) hj (by omega);omega
    exact this i hi
   have hgt:∀ p∈ps.drop (i+1),((ps[i]:Nat):Int)<(p:Int):=by
    intro p hp;obtain⟨k,hk,rfl⟩:=qcF.1 hp;rw[List.getElem_drop];have:=qbd.1 hinc i (i+1+k) hi (by simp at hk; omega) (by omega);omega
   have hpw:2 ^ ps[i]<18446744073709551616:=qcE (n:=64) (by decide) (by omega);have hm:m ||| 2 ^ ps[i]<18446744073709551616:=Nat.or_lt_two_pow (n:=64) h2 hpw;have ih:=zqG (g:=g) (ys:=ys) hx hn hv hp hinc n (i+1) (m ||| 2 ^ ps[i]) (ps[i]:Int) hi hm hgt (by omega)
   rw[zaA,decide_eq_true hi,cond_true,za1 hi,qaa,show decide (((ps[i]:Nat):Int)≤lo)=false from decide_eq_false (by omega),cond_false,
    show decide (((ns.length:Nat):Int)≤((ps[i]:Nat):Int))=false from decide_eq_false (by omega),cond_false,qaa,show(((ps[i]:Nat):Int)==(v:Int))=false by simp; omega,cond_false,
    ← hv,zc0,qaa,zAN (by omega),qaa,orU h2 hpw,zgt,qaa,zam (by omega),hv,ih,hd,qcK]
  rw[zaA,decide_eq_false hi,cond_false,qa6 (by omega)];rfl
structure RightN (g:Nat) (ns:List NN):Prop where
 g1:1≤g
 g2:g≤60
 n1:1≤ns.length
 n2:ns.length≤8
 zaE:∀ x∈ns,1≤x.c∧x.c≤4
 prod:zac (ns.map (·.c))≤1024
 inc:∀ x∈ns,x.ps.Pairwise (· < ·)
 lt:∀ x∈ns,∀ p∈x.ps,p<ns.length
 rows:∀ x∈ns,RowsOk g x.c (zac (x.ps.map fun p=>(ns.map (·.c)).getD p 0)) x.rows
 rk:∃ rk:Nat→Nat,(∀ v,rk v≤8)∧∀ v x,ns[v]? = some x→∀ p∈x.ps,rk p<rk v
theorem ziJ{n:Nat}{ps:List Nat}(h:ps.Pairwise (· < ·))(hp:∀ p∈ps,p<n):ps.length≤n:=by
 have:∀(j:Nat) (hj:j<ps.length),j≤ps[j]:=by
  intro j;induction j with
  | zero=>intro hj; exact qaz _
  | succ j ih=>
   intro hj;have h6:=ih (by omega);have h7:=qbd.1 h j (j+1) (by omega) hj (by omega);omega
 cases hl:ps.length with
 | zero=>exact qaz _
 | succ m=>
  have h1:=this m (by omega);have h2:=hp _ (qav (show m<ps.length by omega));omega
theorem RightN.zzK{g:Nat}{ns:List NN}(h:RightN g ns){x:NN}(hx:x∈ns):x.ps.length≤8:=by
 have:=ziJ (h.inc x hx) (h.lt x hx);have:=h.n2;omega
theorem RightN.ne{g:Nat}{ns:List NN}(h:RightN g ns){v:Nat}{x:NN}(hx:ns[v]? = some x):∀ p∈x.ps,p≠v:=by
 obtain⟨rk,_,h2⟩:=h.rk;intro p hp he;subst he;exact qbO _ (h2 p x hx p hp)
theorem RightN.zyv{g:Nat}{ns:List NN}(h:RightN g ns){x:NN}(hx:x∈ns):∀ p∈x.ps,1≤(ns.map (·.c)).getD p 0∧(ns.map (·.c)).getD p 0≤4:=by
 intro p hp;have hp1:=h.lt x hx p hp;have:=h.zaE ns[p] (qav hp1);simpa [hp1]using this
theorem RightN.zxf{g:Nat}{ns:List NN}(h:RightN g ns){x:NN}(hx:x∈ns):zac (x.ps.map fun p=>(ns.map (·.c)).getD p 0)≤65536:=by
 refine qap (zhO (m:=4) (by omega) fun y hy=>?_) ?_
 ·obtain⟨p,hp,rfl⟩:=qaF.1 hy;exact(h.zyv hx p hp).2
 rw[qaB];exact qap (qbI (by decide) (h.zzK hx)) (by decide)
theorem zr3{g:Nat}{ns:List NN}(h:RightN g ns):∀(n:Nat) (xs ys:List NN),xs ++ ys=ns→ys.length<n →
  zcJ (zc8 g ns) (iL (ns.map (·.c))) n (xs.length:Int) (iL (xs.map (fun x=>zdX x.ps)++ List.replicate ys.length 0))=some (.go (iL (ns.map fun x=>zdX x.ps)))
 | 0,_,_,_,h=>absurd h (qar _)
 | n+1,xs,[],h1,h3=>by
  unfold zcJ;rw[qaT]at h1;subst h1;rw[show(zc8 g xs).nodes.length=xs.length by simp[zc8],zaA,decide_eq_false (by omega),cond_false];simp
 | n+1,xs,y :: ys,h1,h3=>by
  unfold zcJ;have hl:(zc8 g ns).nodes.length=ns.length:=by simp[zc8]
  have hxn:xs.length<ns.length:=by rw[← h1]; simp
  have hn:=h.n2;have hy:ns[xs.length]=y:=by subst h1; simp
  have hyg:ns[xs.length]? = some y:=by rw[qad hxn,hy]
  have hym:y∈ns:=qaD hyg;have hcl:(ns.map (·.c)).length=ns.length:=by simp
  have hlt:∀ p∈y.ps,p<ns.length∧p≠xs.length:=fun p hp=>⟨h.lt y hym p hp,h.ne hyg p hp⟩
  have hcs:=h.zyv hym;have hpl:=h.zzK hym;have hprod:=h.zxf hym;have hyc:=h.zaE y (by rw[← h1]; simp);have ih:=zr3 h n (xs ++ [y]) ys (by rw[← h1]; simp) (by simp at h3; omega);have e3:=zqG (g:=g) (ns:=ns) (x:=nd y) (xs:=xs.map fun x=>zdX x.ps) (ys:=List.replicate ys.length 0) (v:=xs.length) rfl hn (by simp) hlt (h.inc y hym) (y.ps.length+2) 0 0 (-1) (qaz _) (by decide) (fun p hp=>by omega) (by omega);rw[show((0:Nat):Int)=0 from rfl,qbb]at e3;have e4:=zs0 (g:=g) (cs:=ns.map (·.c)) (nodes:=ns.map nd) (sets:=iL (xs.map (fun x=>zdX x.ps)++ zdX y.ps :: List.replicate ys.length 0)) (order:=[]) (x:=y) h.g2 (by rw[hcl]; exact fun p hp=>(hlt p hp).1) (by omega) (fun p hp=>(hcs p hp).1) (by omega) hprod (h.rows y hym)
  rw[hl,zaA,decide_eq_true hxn,cond_true,show zaZ (zc8 g ns).nodes (xs.length:Int)=some (nd y) by rw[← hy]; exact zcB hxn,qaa,qaE,qaV,
   show(nd y).parents.length=y.ps.length by simp[nd,zan],zaL,e3,qaa]
  simp only[];rw[show(y.ps.foldl (fun m p=>m ||| 2 ^ p) 0)=zdX y.ps from rfl];rw[show zc8 g ns=⟨(g:Int),ns.map nd⟩from rfl]at ih ⊢;rw[e4,qaa,cond_true,zam (by omega),← ih];simp
theorem zgn(a b:List Nat):zac (a ++ b)=zac a * zac b:=by
 induction a with
 | nil=>simp[zac]
 | cons x a ih=>
  rw[qbe];show x * zac (a ++ b)=x * zac a * zac b;rw[ih,qaZ]
theorem znq:∀(a b:List Nat) (j:Nat),0<zac b→j<zac a * zac b→dig (a ++ b) j=dig a (j / zac b)++ dig b (j % zac b)
 | [],b,j,_,h=>by
  have h:j<zac b:=by simpa [zac]using h
  simp[dig,qa0 h]
 | c :: a,b,j,hb,h=>by
  have ha:0<zac a:=by
   rcases qcv (zac a)with h0 | h0
   ·have:zac (c :: a)=c * zac a:=rfl;rw[this,h0]at h;simp at h
   exact h0
  rw[qbe];simp only[dig];rw[znq a b (j % zac (a ++ b)) hb (by rw[zgn]; exact qbw _ (qc7 ha hb)),zgn,qbe];have e1:j / (zac a * zac b)=j / zac b / zac a:=by rw[qcR,qaQ]
  have e2:j % (zac a * zac b) / zac b=j / zac b % zac a:=by rw[qaQ,Nat.mod_mul_right_div_self]
  have e3:j % (zac a * zac b) % zac b=j % zac b:=Nat.mod_mod_of_dvd _ ⟨zac a,qaQ _ _⟩;rw[e1,e2,e3]
def zxN(B c:Nat)(rows:List (List Nat))(j:Nat):Nat:=(rows.getD (j / (c * B)* B+j % B) []).getD (j / B % c) 0
theorem ztE{B c i x j:Nat}(hB:0<B)(hx:x<c)(h:(j / (c * B)* B+j % B)* c+j / B % c=i * c+x):j=(i / B * c+x)* B+i % B:=by
 have hc:0<c:=by omega
 have h1:j / B % c=x:=by
  have:=congrArg (· % c) h;rw[qbX,qbs,Nat.mod_mod,qbX (i * c),qbs,qa0 hx]at this;exact this
 have h2:j / (c * B)* B+j % B=i:=by
  have:(j / (c * B)* B+j % B)* c=i * c:=by omega
  exact Nat.eq_of_mul_eq_mul_right hc this
 have h3:i / B=j / (c * B):=by
  rw[← h2,qbX,qcb _ _ hB,qbS (qbw _ hB),qaM]
 have h4:i % B=j % B:=by
  rw[← h2,qbX,qbs,Nat.mod_mod]
 rw[h3,h4,← h1];have e1:j / (c * B)=j / B / c:=by rw[qcR,qaQ]
 rw[e1];have e2:=qcg (j / B) c;have e3:=qcg j B;rw[qaQ c]at e2;rw[e2,qaQ (j / B)];omega
theorem zys{A B c i x:Nat}(hi:i<A * B)(hx:x<c):(i / B * c+x)* B+i % B<A * c * B:=by
 have hB:0<B:=by
  rcases qcv B with h | h
  ·subst h; simp at hi
  exact h
 have h1:i / B<A:=qbZ (by rw[qaQ]; exact hi);have h2:i % B<B:=qbw _ hB;have h3:i / B * c+x<A * c:=by
  have:=qas c (show i / B+1≤A from h1);rw[qaI,qbf]at this;omega
 have h4:=qas B (show i / B * c+x+1≤A * c from h3);rw[qaI,qbf]at h4;omega
theorem zza{B c i x:Nat}(hB:0<B)(hx:x<c):((i / B * c+x)* B+i % B) / (c * B)* B+((i / B * c+x)* B+i % B) % B=i∧((i / B * c+x)* B+i % B) / B % c=x:=by
 have h2:i % B<B:=qbw _ hB;have e1:((i / B * c+x)* B+i % B) / B=i / B * c+x:=by rw[qbX,qcb _ _ hB,qbS h2,qaM]
 have e2:((i / B * c+x)* B+i % B) % B=i % B:=by rw[qbX,qbs,Nat.mod_mod]
 have e3:(i / B * c+x) / c=i / B:=by rw[qbX,qcb _ _ (by omega),qbS hx,qaM]
 have e4:(i / B * c+x) % c=x:=by rw[qbX,qbs,qa0 hx]
 refine⟨?_,by rw[e1,e4]⟩;rw[qaQ c,← qcR,e1,e3,e2,qaQ];exact qcg i B
structure Fil (A B c:Nat) (rows:List (List Nat)) (k:Nat) (w:List Nat):Prop where
 len:w.length=A * c * B
 at_:∀ j,j<A * c * B→(j / (c * B)* B+j % B)* c+j / B % c<k→w.getD j 0=zxN B c rows j
theorem Fil.step{A B c i x:Nat}{rows:List (List Nat)}{w:List Nat}(h:Fil A B c rows (i * c+x) w)(hB:0<B)(hi:i<A * B)(hx:x<c):
  Fil A B c rows (i * c+(x+1)) (w.set ((i / B * c+x)* B+i % B) ((rows.getD i []).getD x 0)):=by
 have hlt:=zys (A:=A) hi hx;refine⟨by rw[qaU]; exact h.len,fun j hj hk=>?_⟩;by_cases e:(i / B * c+x)* B+i % B=j
 ·subst e;obtain⟨k1,k2⟩:=zza (i:=i) hB hx;unfold zxN;rw[k1,k2,qam,qaC (by rw[h.len]; exact hlt),qbF]
 rw[qam,qao e,← qam];refine h.at_ j hj ?_;rcases qa2 ((j / (c * B)* B+j % B)* c+j / B % c) (i * c+x)with g | g
 ·exact g
 exact absurd (ztE hB hx (by omega)).symm e
theorem Fil.next{A B c i:Nat}{rows:List (List Nat)}{w:List Nat}(h:Fil A B c rows (i * c+c) w):Fil A B c rows ((i+1)* c+0) w:=by
 rw[qbm,qaI,qbf]; exact h
theorem Fil.start(A B c:Nat)(rows:List (List Nat)):Fil A B c rows (0 * c+0) (List.replicate (A * c * B) 0):=
 ⟨by simp,fun j _ h=>absurd h (by omega)⟩
theorem Fil.all{A B c:Nat}{rows:List (List Nat)}{w:List Nat}(h:Fil A B c rows (A * B * c+0) w)(hB:0<B)(hc:0<c):w=(List.range' 0 (A * c * B)).map (zxN B c rows):=by
 apply qcq
 ·simp[h.len]
 intro j h1 h2;have hj:j<A * c * B:=by rw[← h.len]; exact h1
 have hk:(j / (c * B)* B+j % B)* c+j / B % c<A * B * c+0:=by
  have g1:j / (c * B)<A:=qbZ (by rw[qaQ (c * B),← qaZ]; exact hj);have g2:j % B<B:=qbw _ hB;have g3:j / B % c<c:=qbw _ hc;have g4:=qas B (show j / (c * B)+1≤A from g1);rw[qaI,qbf]at g4;have g5:=qas c (show j / (c * B)* B+j % B+1≤A * B by omega);rw[qaI,qbf]at g5;omega
 have:=h.at_ j hj hk;rw[qam,qad h1,qbF]at this;rw[this];simp
section
variable {x:S_api_Factor} {p3:Int}
end
section
variable {y4 l1:List Int} {x:S_api_Factor}
end
section
variable {r6 r8:S_api_Factor} {p3:Int} {y4:List Int}
end
def Fc.val(f:Fc)(s:Nat→Nat):Nat:=f.get (dot (f.vs.map s) (zaS f.cs))
theorem zvu(f:Fc)(u ds:List Nat):f.at u ds=f.val (at_ u ds):=rfl
def Fit(f:Fc)(s:Nat→Nat):Prop:=∀ v∈f.vs,s v<at_ f.vs f.cs v
theorem zgl{s:Nat→Nat}:∀ {us cs:List Nat},us.length=cs.length→us.Nodup→(∀ c∈cs,1≤c∧c≤8)→(∀ v∈us,s v<at_ us cs v)→zb3 cs (us.map s)
 | [],[],_,_,_,_=>trivial
 | [],c :: cs,h,_,_,_=>by simp at h
 | u :: us,[],h,_,_,_=>by simp at h
 | u :: us,c :: cs,hl,hn,hc,h=>by
  obtain⟨h1,h2⟩:=qbp.1 hn;have hu:=h u qan;rw[zeA,beq_self_eq_true,cond_true]at hu;refine⟨hu,(hc c qan).2,zgl (by simpa using hl) h2 (fun d hd=>hc d (qaj _ hd)) fun v hv=>?_⟩;have:=h v (qaj _ hv)
  rwa [zeA,show(u == v)=false from beq_false_of_ne (fun e=>h1 (e ▸ hv)),cond_false]at this
theorem Fit.below{f:Fc}(hf:FcOk f){s:Nat→Nat}(h:Fit f s):zb3 f.cs (f.vs.map s):=zgl hf.len (zdx hf.inc) hf.zaE h
theorem zrO{f:Fc}(hf:FcOk f){i:Nat}(hi:i<zac f.cs):f.val (at_ f.vs (dig f.cs i))=f.get i:=by
 unfold Fc.val;rw[zvg (zdx hf.inc) (by rw[zf8,hf.len]),zka hf.zaE hi]
theorem val_congr{f:Fc}{s t:Nat→Nat}(h:∀ v∈f.vs,s v=t v):f.val s=f.val t:=by
 unfold Fc.val;rw[qbD h]
theorem get_map{n:Nat}{g:Nat→Nat}{i:Nat}(h:i<n):((List.range' 0 n).map g).getD i 0=g i:=by
 rw[qam,qad (by simpa using h)];simp
theorem zn4{f g:Fc}(hf:FcOk f)(hg:FcOk g)(hc:zbw (iL (ucs f g))=true){s:Nat→Nat}(hs:Fit (ztI f g) s):(ztI f g).val s=f.val s * g.val s:=by
 have hD:=znr hc;have hb:zb3 (ucs f g) ((uni f g).map s):=zgl hD.len hD.nodup hD.zaE hs;have hlt:=zml hb;show((List.range' 0 (zac (ucs f g))).map fun j=>f.at (uni f g) (dig (ucs f g) j)* g.at (uni f g) (dig (ucs f g) j)).getD (dot ((uni f g).map s) (zaS (ucs f g))) 0=_;rw[get_map hlt,zj2 hb,zvu,zvu];rw[val_congr (f:=f) (t:=s) fun v hv=>zgL ((zdC hf hg).2 (.inl hv)),val_congr (f:=g) (t:=s) fun v hv=>zgL ((zdC hf hg).2 (.inr hv))]
def upd(s:Nat→Nat)(v p:Nat)(u:Nat):Nat:=bif u == v then p else s u
theorem zd2(s:Nat→Nat)(v p:Nat):upd s v p v=p:=by unfold upd; rw[beq_self_eq_true,cond_true]
theorem zfV{s:Nat→Nat}{v p u:Nat}(h:u≠v):upd s v p u=s u:=by unfold upd; rw[beq_false_of_ne h,cond_false]
theorem zxz{f:Fc}(hf:FcOk f){v k:Nat}(hv:pos f.vs v=some k)(hk:k<f.cs.length):at_ f.vs f.cs v=f.cs[k]:=by
 rw[zoR hv,qam,qad hk];rfl
structure Std (f:Fc) (M:Nat):Prop where
 ok:FcOk f
 cs:f.cs=f.vs.map zgx
 var:∀ v∈f.vs,v<5
 le:∀ i,f.get i≤M
theorem zuQ:∀ v,v<5→1≤zgx v∧zgx v≤8:=by decide
theorem zu5:[0,1,2,3,4].Pairwise (· < ·):=by decide
theorem zt7{v:Nat}(h:v<5):v∈[0,1,2,3,4]:=by
 have:∀ v,v<5→v∈[0,1,2,3,4]:=by decide
 exact this v h
theorem zsn{vs:List Nat}(hi:vs.Pairwise (· < ·))(hv:∀ v∈vs,v<5):zac (vs.map zgx)≤24∧vs.length≤5:=by
 have hs:=zng hi zu5 fun v h=>zt7 (hv v h)
 refine⟨?_,hs.length_le⟩;have:=zlh (hs.map zgx) (by decide);exact this
theorem zq5{vs:List Nat}(hv:∀ v∈vs,v<5):∀ c∈vs.map zgx,1≤c∧c≤8:=by
 intro c hc;obtain⟨v,h,rfl⟩:=qaF.1 hc;exact zuQ v (hv v h)
theorem zp9{vs:List Nat}(hi:vs.Pairwise (· < ·))(hv:∀ v∈vs,v<5):zbw (iL (vs.map zgx))=true:=by
 obtain⟨h1,h2⟩:=zsn hi hv;unfold zbw;rw[zan,qaB,decide_eq_true (by omega),qbt];exact zgy (zq5 hv) (by omega)
theorem Std.at{f:Fc}{M:Nat}(h:Std f M){v:Nat}(hv:v∈f.vs):at_ f.vs f.cs v=zgx v:=by rw[h.cs,zgL hv]
theorem Std.mono{f:Fc}{M N:Nat}(h:Std f M)(hl:M≤N):Std f N:=⟨h.ok,h.cs,h.var,fun i=>qap (h.le i) hl⟩
theorem Std.agr{f g:Fc}{M N:Nat}(hf:Std f M)(hg:Std g N):Agr f g:=fun v h1 h2=>by rw[hf.at h1,hg.at h2]
theorem Std.zaE{f:Fc}{M:Nat}(h:Std f M){v k:Nat}(hv:pos f.vs v=some k)(hk:k<f.cs.length):f.cs[k]=zgx v:=by
 obtain⟨h1,e⟩:=zfH hv;rw[← zxz h.ok hv hk,h.at (e ▸ qav h1)]
theorem Std.ucs{f g:Fc}{M N:Nat}(hf:Std f M)(hg:Std g N):ucs f g=(uni f g).map zgx:=by
 refine qbD fun v hv=>?_
 rcases(zdC hf.ok hg.ok).1 hv with h | h
 ·rw[zAh h,hf.at h]
 rw[zAA (hf.agr hg) h,hg.at h]
theorem Std.uv{f g:Fc}{M N:Nat}(hf:Std f M)(hg:Std g N):∀ v∈uni f g,v<5:=fun v hv=>((zdC hf.ok hg.ok).1 hv).elim (hf.var v) (hg.var v)
theorem Std.zad{f g:Fc}{M N:Nat}(hf:Std f M)(hg:Std g N):zbw (iL (Go.Dc.ucs f g))=true:=by
 rw[hf.ucs hg];exact zp9 (zhk f g) (hf.uv hg)
theorem zjF{l:List Nat}{M:Nat}(h:∀ x∈l,x≤M)(k:Nat):l.getD k 0≤M:=by
 by_cases hk:k<l.length
 ·rw[qam,qad hk];exact h _ (qav hk)
 rw[qam,qa9 (by omega)];exact qaz _
end Go.Dc
